import Derived.Shelf.Small.Strs
import Derived.Test.YtnlaiahcemckkaaGreatDoorHPEd
open Prod (fst)
open Int (tdiv tmod)
set_option linter.unusedVariables false
set_option linter.unusedSimpArgs false
namespace Go.Proofs.YtnlaiahcemckkaaGreatDoor.Av
noncomputable section
open Go Go.Proofs Go.Shelf
def GrP:Go.Shelf.Ren:=⟨(fun n=>if n=106 then 144 else if n=213 then 222 else if n=265 then 308 else 0),(fun n=>if n=3 then 3 else if n=9 then 9 else 0),(fun n=>0)⟩
theorem GwC:Lays.n106 Tryz.prog GrP:=⟨(by kernel_rfl),(by kernel_rfl),(by kernel_rfl),(by kernel_rfl),(by kernel_rfl),(fun w=>by kernel_rfl),(fun w=>by kernel_rfl),(fun w=>by kernel_rfl),(by kernel_rfl),(fun w=>by kernel_rfl),(fun w=>by kernel_rfl),(fun w=>by kernel_rfl)⟩
def GwN (a b:List UInt8):Option Int:=some (Go.Lib.compareBytes a b)
theorem RX (a b:List UInt8) (r:Int) (h:GwN a b=some r):G5 Tryz.prog GT 144 [.str a,.str b] (jI r) []:=by
 obtain rfl:=Option.some.inj h
 refine G5.of_calls fun ro w vs hlt hr hg=>?_
 obtain ⟨x,y,rfl,hx,hy⟩:=Gvp hr
 cases hx with
 | str h1=>
 cases hy with
 | str h2=>
 subst h1; subst h2
 refine (Any.strings_Compare GwC _ _ w).mono ?_
 rintro e w' ⟨rfl,rfl⟩
 exact ⟨⟨_,rfl,fun _ _ _=>.int⟩,0,#[],by simp [Go.World.drewN]⟩
end
set_option maxHeartbeats 4000000
set_option maxRecDepth 100000
noncomputable section
open Go Go.Proofs
def Yn (s_0:(List UInt8)) (n_1:Int):Nat→HT (Nat⊕(Unit⊕Unit)) True
 | p0=>.sp (p0<s_0.length)
  (.bd (some (dec s_0 p0)) fun r13=>.run ((.op none (.m r13.1 r13.2))::oc::bt::(cs 2 [])) (fun γ=>k2 γ.1.2 (k2 ((Option.some.inj γ.2):Utf8.decode ⟨s_0.toArray⟩ p0=(r13.1,r13.2)) (Gb (rfl:true=true)))) <|
  .sp ((↑r13.1:Int)<(48:Int))
  (.run (oc::oa::oc::tc::(cs 2 [bt,oc])) (fun γ=>k2 (dT γ.2) (Gb (rfl:true=true))) <|
  .leaf (Sum.inr (Sum.inl ())) [])
  (.run [oc,oa,oc,oF,oa,oc] (fun γ=>Gb (dF γ.2)) <|
  .sp ((↑r13.1:Int)>(57:Int))
  (.run [bt,oc] (fun γ=>Gb (dT γ.2)) <|
  .leaf (Sum.inr (Sum.inl ())) [])
  (.run [bf] (fun γ=>Gb (dF γ.2)) <|
  .leaf (Sum.inl (p0+r13.2)) [0])))
  (.run [.op none (.b false),oc,bf] (fun γ=>k2 γ.2 (Gb (rfl:false=false))) <|
  .leaf (Sum.inr (Sum.inr (()))) [])
def MV (s_0:(List UInt8)) (n_1:Int):Nat→Option (Nat⊕(Unit⊕Unit)):=fun s=>(Yn s_0 n_1 s).den
def GeB (s_0:(List UInt8)) (n_1:Int):Nat→PS:=fun s=>(22,[(0,.str s_0),(1,jI n_1),(8,.ptr 0 0)],[{ c:=[],e:=0,ext:=false,fz:=0,pl:=true,o:=false,it:=some (.str s_0 s) }])
def Gei:(Unit⊕Unit)→Hm:=fun q=>match q with | Sum.inl o=>.ret | Sum.inr (o)=>(.exit 0)
def Gek (s_0:(List UInt8)) (n_1:Int):(Unit⊕Unit)→List (Nat×AV):=fun q=>match q with | Sum.inl o=>[(4,.bool false)] | Sum.inr (o)=>[(0,.str s_0),(1,jI n_1)]
def Gee (s_0:(List UInt8)) (n_1:Int):(Unit⊕Unit)→List G6:=fun q=>match q with | Sum.inl o=>[] | Sum.inr (o)=>[]
theorem GaL (s_0:(List UInt8)) (n_1:Int) {s:Nat} {r:Unit⊕Unit} (h:lp (MV s_0 n_1) s=some r):GI Tryz.prog GT 0 (.loop (GO Tryz.prog 239 [1,0,1,0,0])) (GeB s_0 n_1 s).st (Gei r) (PS.st (22,Gek s_0 n_1 r,Gee s_0 n_1 r)):=
 GI.lp_ht 0 400 (GeB s_0 n_1) Gei (fun q=>(22,Gek s_0 n_1 q,Gee s_0 n_1 q)) (Yn s_0 n_1) (by intro p0; kernel_rfl) h
def Gea (s_0:(List UInt8)) (n_1:Int):HT Bool True:=.run (cs 3 []) (fun _=>He) <|
  .bd (lp (MV s_0 n_1) (0:Nat)) fun qq=>.cs qq (fun o1=>.run [.fcut 0 .ret [(4,.bool false)] [] [0] [(0,.any),(1,.any),(8,.any)] [{ c:=[],e:=0,ext:=false,fz:=0,pl:=true,o:=false,it:=some (.str s_0 (0:Nat)) }]] (fun γ=>k2 (⟨rfl,rfl⟩:s_0=s_0∧0=(0:Nat)) (Gb (GaL s_0 n_1 (s:=(0:Nat)) (r:=Sum.inl o1) (eS γ.1.2 γ.2)))) <|
  .leaf false [])
  (fun o1=>.run ((.fcut 0 (.exit 0) [(0,.str s_0),(1,jI n_1)] [] [0] [(0,.any),(1,.any),(8,.any)] [{ c:=[],e:=0,ext:=false,fz:=0,pl:=true,o:=false,it:=some (.str s_0 (0:Nat)) }])::(cs 3 [oa,oc])) (fun γ=>k2 (⟨rfl,rfl⟩:s_0=s_0∧0=(0:Nat)) (Gb (GaL s_0 n_1 (s:=(0:Nat)) (r:=Sum.inr (o1)) (eS γ.1.2 γ.2)))) <|
  .leaf ((↑s_0.length:Int)==n_1) [])
def Gd6 (s_0:(List UInt8)) (n_1:Int):Option Bool:=(Gea s_0 n_1).den
theorem Ggw (s_0:(List UInt8)) (n_1:Int) (r:Bool) (h:Gd6 s_0 n_1=some r):G5 Tryz.prog GT 239 [.str s_0,jI n_1] (.bool r) []:=
 G5.of_ht 400 (Gea s_0 n_1) (fun (r:Bool)=>.bool r) (fun (r:Bool)=>[]) (by kernel_rfl) h
def Gcp (s_0:(List UInt8)):(Int×Nat)→HT ((Int×Nat)⊕Int) True
 | (v3,p0)=>.sp (p0<s_0.length)
  (.bd (some (dec s_0 p0)) fun r25=>.run ((.op none (.m r25.1 r25.2))::oc::bt::(cs 4 [])) (fun γ=>k2 γ.1.2 (k2 ((Option.some.inj γ.2):Utf8.decode ⟨s_0.toArray⟩ p0=(r25.1,r25.2)) (Gb (rfl:true=true)))) <|
  .gd (GP .i32 ((↑r25.1:Int) - 48)) <| .gd (GP .i64 ((↑r25.1:Int) - 48)) <| .run (oc::ow::ow::(cs 2 [oa,oa])) (fun γ=>k2 γ.1.2 (k2 γ.2 (Gb ((by decide):2≠(0:Int))))) <|
  .sp ((tmod (↑p0:Int) 2)=(0:Int))
  (.run [bt] (fun γ=>Gb (Gp γ.2)) <|
  .gd (GP .i64 (((↑r25.1:Int) - 48)*2)) <| .run (oc::ow::(cs 2 [oa])) (fun γ=>Gb γ.2) <|
  .sp ((((↑r25.1:Int) - 48)*2)>(9:Int))
  (.run [bt] (fun γ=>Gb (dT γ.2)) <|
  .gd (GP .i64 ((((↑r25.1:Int) - 48)*2) - 9)) <| .run [oc,ow,oc] (fun γ=>Gb γ.2) <|
  .gd (GP .i64 (v3+((((↑r25.1:Int) - 48)*2) - 9))) <| .run (cs 2 [ow,oc]) (fun γ=>Gb γ.2) <|
  .leaf (Sum.inl ((v3+((((↑r25.1:Int) - 48)*2) - 9)),(p0+r25.2))) [0])
  (.run [bf] (fun γ=>Gb (dF γ.2)) <|
  .gd (GP .i64 (v3+(((↑r25.1:Int) - 48)*2))) <| .run (cs 2 [ow,oc]) (fun γ=>Gb γ.2) <|
  .leaf (Sum.inl ((v3+(((↑r25.1:Int) - 48)*2)),(p0+r25.2))) [0]))
  (.run [bf] (fun γ=>Gb (Gw γ.2)) <|
  .gd (GP .i64 (v3+((↑r25.1:Int) - 48))) <| .run (cs 2 [ow,oc]) (fun γ=>Gb γ.2) <|
  .leaf (Sum.inl ((v3+((↑r25.1:Int) - 48)),(p0+r25.2))) [0]))
  (.run [.op none (.b false),oc,bf] (fun γ=>k2 γ.2 (Gb (rfl:false=false))) <|
  .leaf (Sum.inr v3) [])
def Q5 (s_0:(List UInt8)):(Int×Nat)→Option ((Int×Nat)⊕Int):=fun s=>(Gcp s_0 s).den
def Gih (s_0:(List UInt8)):(Int×Nat)→PS:=fun s=>(29,[(3,jI s.1),(8,.ptr 0 0)],[{ c:=[],e:=0,ext:=false,fz:=0,pl:=true,o:=false,it:=some (.str s_0 s.2) }])
def Gg2:Int→Hm:=fun o=>(.exit 0)
def Gh2 (s_0:(List UInt8)):Int→List (Nat×AV):=fun o=>[(3,jI o)]
def Ghe (s_0:(List UInt8)):Int→List G6:=fun o=>[]
theorem GkC (s_0:(List UInt8)) {s:(Int×Nat)} {r:Int} (h:lp (Q5 s_0) s=some r):GI Tryz.prog GT 0 (.loop (GO Tryz.prog 240 [1,1,0,1,0,0])) (Gih s_0 s).st (Gg2 r) (PS.st (29,Gh2 s_0 r,Ghe s_0 r)):=
 GI.lp_ht 0 400 (Gih s_0) Gg2 (fun q=>(29,Gh2 s_0 q,Ghe s_0 q)) (Gcp s_0) (by rintro ⟨v3,p0⟩; kernel_rfl) h
def GiH (s_0:(List UInt8)):HT Int True:=.run (cs 4 []) (fun _=>He) <|
  .bd (lp (Q5 s_0) ((0:Int),(0:Nat))) fun o1=>.run ((.fcut 0 (.exit 0) [(3,jI o1)] [] [0] [(3,jI (0:Int)),(8,.any)] [{ c:=[],e:=0,ext:=false,fz:=0,pl:=true,o:=false,it:=some (.str s_0 (0:Nat)) }])::(cs 2 [])) (fun γ=>k2 (rfl:(jI 0:AV)=jI (0:Int)) (k2 (⟨rfl,rfl⟩:s_0=s_0∧0=(0:Nat)) (Gb (GkC s_0 (s:=((0:Int),(0:Nat))) (r:=o1) γ.2)))) <|
  .leaf o1 []
def Gje (s_0:(List UInt8)):Option Int:=(GiH s_0).den
theorem Gp0 (s_0:(List UInt8)) (r:Int) (h:Gje s_0=some r):G5 Tryz.prog GT 240 [.str s_0] (jI r) []:=
 G5.of_ht 400 (GiH s_0) (fun (r:Int)=>jI r) (fun (r:Int)=>[]) (by kernel_rfl) h
def GfZ (s_0:(List UInt8)):HT Int True:=.run [oc] (fun _=>He) <|
  .bd (Gd6 s_0 12) fun r1=>.sp (r1=true)
  (.bd (Gje s_0) fun r4=>.run (oc::(.ret none [.any,.any] (.bool r1) [])::(cs 2 [oF,.ret none [.any] (jI r4) [],oa,oa,oc])) (fun γ=>k2 (Ggw s_0 12 r1 γ.1.1.2) (k2 ((Gs γ.1.2):(!r1)=false) (k2 (Gp0 s_0 r4 γ.2) (Gb ((by decide):10≠(0:Int)))))) <|
  .sp ((tmod r4 10)=(0:Int))
  (.run [bf,oc] (fun γ=>Gb (Gs (Gp γ.2))) <|
  .leaf 0 [])
  (.run [bt,oc] (fun γ=>Gb (Gu (Gw γ.2))) <|
  .leaf 18 []))
  (.run (oc::(.ret none [.any,.any] (.bool r1) [])::(cs 2 (tc::(cs 4 [bt,oc])))) (fun γ=>k2 (Ggw s_0 12 r1 γ.1.2) (k2 ((Gu (eq_false_of_ne_true γ.2)):(!r1)=true) (Gb (rfl:true=true)))) <|
  .leaf 18 [])
def Gdw (s_0:(List UInt8)):Option Int:=(GfZ s_0).den
theorem Gh8 (s_0:(List UInt8)) (r:Int) (h:Gdw s_0=some r):G5 Tryz.prog GT 172 [.str s_0] (jI r) []:=
 G5.of_ht 400 (GfZ s_0) (fun (r:Int)=>jI r) (fun (r:Int)=>[]) (by kernel_rfl) h
def GcF (a_0:Gy) (b_1:Gy):HT Int True:=.run (cs 3 []) (fun _=>He) <|
  .bd (GwN a_0.Tag b_1.Tag) fun r1=>.sp (a_0.From=a_0.From)
  (.sp (b_1.From=b_1.From)
  (.sp (a_0.From<b_1.From)
  (.sp (r1=(0:Int))
  (.run (cs 4 ((.ret none [.any,.any] (jI r1) [])::(cs 11 (oa::(cs 7 (oa::(cs 3 (bf::oc::bf::(cs 2 (oa::bt::(cs 9 (bt::(cs 5 (oa::bf::(cs 3 (bt::(cs 6 (bt::(cs 3 []))))))))))))))))))) (fun γ=>k2 (RX a_0.Tag b_1.Tag r1 γ.1.1.1.1.2) (k2 (Gs (Gp γ.1.1.1.2)) (k2 (Gs (Gp γ.1.1.2)) (k2 (dT γ.1.2) (k2 (rfl:true=true) (k2 (Gs (Gp γ.2)) (k2 (rfl:true=true) (k2 (rfl:true=true) (Gb (⟨rfl,trivial⟩:(some (Ob.blk (bT [jI r1,jI (-1)] 3))=some (Ob.blk (bT [jI r1,jI (-1)] 3)))∧True)))))))))) <|
  .leaf (-1) [])
  (.run (cs 4 ((.ret none [.any,.any] (jI r1) [])::(cs 11 (oa::(cs 7 (oa::(cs 3 (bf::oc::bf::(cs 2 (oa::bt::(cs 9 (bt::(cs 5 (oa::bt::(cs 3 []))))))))))))))) (fun γ=>k2 (RX a_0.Tag b_1.Tag r1 γ.1.1.1.1.2) (k2 (Gs (Gp γ.1.1.1.2)) (k2 (Gs (Gp γ.1.1.2)) (k2 (dT γ.1.2) (k2 (rfl:true=true) (k2 (Gu (Gw γ.2)) (Gb (⟨rfl,trivial⟩:(some (Ob.blk (bT [jI r1,jI (-1)] 3))=some (Ob.blk (bT [jI r1,jI (-1)] 3)))∧True)))))))) <|
  .leaf r1 []))
  (.sp (a_0.From>b_1.From)
  (.sp (r1=(0:Int))
  (.run (cs 4 ((.ret none [.any,.any] (jI r1) [])::(cs 11 (oa::(cs 7 (oa::(cs 3 (bf::oc::bf::(cs 2 (oa::bf::(cs 2 (oa::bt::(cs 9 (bt::(cs 5 (oa::bf::(cs 3 (bt::(cs 6 (bt::(cs 3 []))))))))))))))))))))) (fun γ=>k2 (RX a_0.Tag b_1.Tag r1 γ.1.1.1.1.1.2) (k2 (Gs (Gp γ.1.1.1.1.2)) (k2 (Gs (Gp γ.1.1.1.2)) (k2 (dF γ.1.1.2) (k2 (dT γ.1.2) (k2 (rfl:true=true) (k2 (Gs (Gp γ.2)) (k2 (rfl:true=true) (k2 (rfl:true=true) (Gb (⟨rfl,trivial⟩:(some (Ob.blk (bT [jI r1,jI 1] 3))=some (Ob.blk (bT [jI r1,jI 1] 3)))∧True))))))))))) <|
  .leaf 1 [])
  (.run (cs 4 ((.ret none [.any,.any] (jI r1) [])::(cs 11 (oa::(cs 7 (oa::(cs 3 (bf::oc::bf::(cs 2 (oa::bf::(cs 2 (oa::bt::(cs 9 (bt::(cs 5 (oa::bt::(cs 3 []))))))))))))))))) (fun γ=>k2 (RX a_0.Tag b_1.Tag r1 γ.1.1.1.1.1.2) (k2 (Gs (Gp γ.1.1.1.1.2)) (k2 (Gs (Gp γ.1.1.1.2)) (k2 (dF γ.1.1.2) (k2 (dT γ.1.2) (k2 (rfl:true=true) (k2 (Gu (Gw γ.2)) (Gb (⟨rfl,trivial⟩:(some (Ob.blk (bT [jI r1,jI 1] 3))=some (Ob.blk (bT [jI r1,jI 1] 3)))∧True))))))))) <|
  .leaf r1 []))
  (.sp (r1=(0:Int))
  (.run (cs 4 ((.ret none [.any,.any] (jI r1) [])::(cs 11 (oa::(cs 7 (oa::(cs 3 (bf::oc::bf::(cs 2 (oa::bf::(cs 2 (oa::bf::(cs 9 (bt::(cs 5 (oa::bf::(cs 3 (bt::(cs 6 (bf::(cs 3 (bf::(cs 3 []))))))))))))))))))))))) (fun γ=>k2 (RX a_0.Tag b_1.Tag r1 γ.1.1.1.1.1.2) (k2 (Gs (Gp γ.1.1.1.1.2)) (k2 (Gs (Gp γ.1.1.1.2)) (k2 (dF γ.1.1.2) (k2 (dF γ.1.2) (k2 (rfl:true=true) (k2 (Gs (Gp γ.2)) (k2 (rfl:true=true) (k2 (rfl:false=false) (k2 (rfl:false=false) (Gb (⟨rfl,trivial⟩:(some (Ob.blk (bT [jI r1,jI 0] 3))=some (Ob.blk (bT [jI r1,jI 0] 3)))∧True)))))))))))) <|
  .leaf 0 [])
  (.run (cs 4 ((.ret none [.any,.any] (jI r1) [])::(cs 11 (oa::(cs 7 (oa::(cs 3 (bf::oc::bf::(cs 2 (oa::bf::(cs 2 (oa::bf::(cs 9 (bt::(cs 5 (oa::bt::(cs 3 []))))))))))))))))) (fun γ=>k2 (RX a_0.Tag b_1.Tag r1 γ.1.1.1.1.1.2) (k2 (Gs (Gp γ.1.1.1.1.2)) (k2 (Gs (Gp γ.1.1.1.2)) (k2 (dF γ.1.1.2) (k2 (dF γ.1.2) (k2 (rfl:true=true) (k2 (Gu (Gw γ.2)) (Gb (⟨rfl,trivial⟩:(some (Ob.blk (bT [jI r1,jI 0] 3))=some (Ob.blk (bT [jI r1,jI 0] 3)))∧True))))))))) <|
  .leaf r1 []))))
  (.sp (r1=(0:Int))
  (.run (cs 4 ((.ret none [.any,.any] (jI r1) [])::(cs 11 (oa::(cs 7 (oa::(cs 3 (bf::oc::bt::(cs 9 (bt::(cs 5 (oa::bf::(cs 3 (bt::(cs 6 (bt::(cs 3 []))))))))))))))))) (fun γ=>k2 (RX a_0.Tag b_1.Tag r1 γ.1.1.1.2) (k2 (Gs (Gp γ.1.1.2)) (k2 (Gu (Gw γ.1.2)) (k2 (rfl:true=true) (k2 (Gs (Gp γ.2)) (k2 (rfl:true=true) (k2 (rfl:true=true) (Gb (⟨rfl,trivial⟩:(some (Ob.blk (bT [jI r1,jI 1] 3))=some (Ob.blk (bT [jI r1,jI 1] 3)))∧True))))))))) <|
  .leaf 1 [])
  (.run (cs 4 ((.ret none [.any,.any] (jI r1) [])::(cs 11 (oa::(cs 7 (oa::(cs 3 (bf::oc::bt::(cs 9 (bt::(cs 5 (oa::bt::(cs 3 []))))))))))))) (fun γ=>k2 (RX a_0.Tag b_1.Tag r1 γ.1.1.1.2) (k2 (Gs (Gp γ.1.1.2)) (k2 (Gu (Gw γ.1.2)) (k2 (rfl:true=true) (k2 (Gu (Gw γ.2)) (Gb (⟨rfl,trivial⟩:(some (Ob.blk (bT [jI r1,jI 1] 3))=some (Ob.blk (bT [jI r1,jI 1] 3)))∧True))))))) <|
  .leaf r1 [])))
  (.sp (b_1.From=b_1.From)
  (.sp (r1=(0:Int))
  (.run (cs 4 ((.ret none [.any,.any] (jI r1) [])::(cs 11 (oa::(cs 7 (oa::(cs 3 (bt::oc::bf::(cs 9 (bt::(cs 5 (oa::bf::(cs 3 (bt::(cs 6 (bt::(cs 3 []))))))))))))))))) (fun γ=>k2 (RX a_0.Tag b_1.Tag r1 γ.1.1.1.2) (k2 (Gu (Gw γ.1.1.2)) (k2 (Gs (Gp γ.1.2)) (k2 (rfl:true=true) (k2 (Gs (Gp γ.2)) (k2 (rfl:true=true) (k2 (rfl:true=true) (Gb (⟨rfl,trivial⟩:(some (Ob.blk (bT [jI r1,jI (-1)] 3))=some (Ob.blk (bT [jI r1,jI (-1)] 3)))∧True))))))))) <|
  .leaf (-1) [])
  (.run (cs 4 ((.ret none [.any,.any] (jI r1) [])::(cs 11 (oa::(cs 7 (oa::(cs 3 (bt::oc::bf::(cs 9 (bt::(cs 5 (oa::bt::(cs 3 []))))))))))))) (fun γ=>k2 (RX a_0.Tag b_1.Tag r1 γ.1.1.1.2) (k2 (Gu (Gw γ.1.1.2)) (k2 (Gs (Gp γ.1.2)) (k2 (rfl:true=true) (k2 (Gu (Gw γ.2)) (Gb (⟨rfl,trivial⟩:(some (Ob.blk (bT [jI r1,jI (-1)] 3))=some (Ob.blk (bT [jI r1,jI (-1)] 3)))∧True))))))) <|
  .leaf r1 []))
  (.sp (r1=(0:Int))
  (.run (cs 4 ((.ret none [.any,.any] (jI r1) [])::(cs 11 (oa::(cs 7 (oa::(cs 3 (bt::oc::bt::(cs 9 (bt::(cs 5 (oa::bf::(cs 3 (bt::(cs 6 (bf::(cs 3 (bf::(cs 3 []))))))))))))))))))) (fun γ=>k2 (RX a_0.Tag b_1.Tag r1 γ.1.1.1.2) (k2 (Gu (Gw γ.1.1.2)) (k2 (Gu (Gw γ.1.2)) (k2 (rfl:true=true) (k2 (Gs (Gp γ.2)) (k2 (rfl:true=true) (k2 (rfl:false=false) (k2 (rfl:false=false) (Gb (⟨rfl,trivial⟩:(some (Ob.blk (bT [jI r1,jI 0] 3))=some (Ob.blk (bT [jI r1,jI 0] 3)))∧True)))))))))) <|
  .leaf 0 [])
  (.run (cs 4 ((.ret none [.any,.any] (jI r1) [])::(cs 11 (oa::(cs 7 (oa::(cs 3 (bt::oc::bt::(cs 9 (bt::(cs 5 (oa::bt::(cs 3 []))))))))))))) (fun γ=>k2 (RX a_0.Tag b_1.Tag r1 γ.1.1.1.2) (k2 (Gu (Gw γ.1.1.2)) (k2 (Gu (Gw γ.1.2)) (k2 (rfl:true=true) (k2 (Gu (Gw γ.2)) (Gb (⟨rfl,trivial⟩:(some (Ob.blk (bT [jI r1,jI 0] 3))=some (Ob.blk (bT [jI r1,jI 0] 3)))∧True))))))) <|
  .leaf r1 [])))
def Gbx (a_0:Gy) (b_1:Gy):Option Int:=(GcF a_0 b_1).den
theorem Gmj (a_0:Gy) (b_1:Gy) (r:Int) (h:Gbx a_0 b_1=some r):G5 Tryz.prog GT 173 [.agg (Gy.enc a_0),.agg (Gy.enc b_1)] (jI r) []:=
 G5.of_ht 400 (GcF a_0 b_1) (fun (r:Int)=>jI r) (fun (r:Int)=>[]) (by kernel_rfl) h
def QD (l_0:(List Gy)):Nat→HT (Nat⊕(Int⊕Unit)) True
 | k11=>.run [oa] (fun _=>He) <|
  .sp ((↑k11:Int)<(↑l_0.length:Int))
  (.run [bt] (fun γ=>Gb (dT γ.2)) <|
  .bd (l_0[k11]?) fun x24=>.run (oc::(.op none (.i k11))::(.op none (.v [.str x24.Tag,jI x24.From,jI x24.State]))::(cs 3 [])) (fun γ=>k2 (ir γ.2) (k2 (GC (f:=Gy.enc) (z:=2) (fun _=>rfl) γ.2) (Gb (GU (f:=Gy.enc) (z:=3) (j:=k11) (fun _=>rfl) γ.2 rfl)))) <|
  .bd (Gdw x24.Tag) fun r26=>.run (cs 2 ((.ret none [.any] (jI r26) [])::(cs 2 [oa]))) (fun γ=>Gb (Gh8 x24.Tag r26 γ.2)) <|
  .sp (r26=(0:Int))
  (.run [bf] (fun γ=>Gb (Gs (Gp γ.2))) <|
  .sp (x24.From<(0:Int))
  (.run (cs 2 (oa::oc::tc::(cs 4 [bt,oc]))) (fun γ=>k2 (dT γ.2) (Gb (rfl:true=true))) <|
  .leaf (Sum.inr (Sum.inl 12)) [])
  (.run (cs 2 (oa::oc::oF::oc::oa::(cs 2 []))) (fun γ=>Gb (dF γ.2)) <|
  .sp (x24.From≥(68719476736:Int))
  (.run [bt,oc] (fun γ=>Gb (dT γ.2)) <|
  .leaf (Sum.inr (Sum.inl 12)) [])
  (.run [bf] (fun γ=>Gb (dF γ.2)) <|
  .sp (x24.State<(1:Int))
  (.run (cs 2 (oa::oc::tc::(cs 4 [bt,oc]))) (fun γ=>k2 (dT γ.2) (Gb (rfl:true=true))) <|
  .leaf (Sum.inr (Sum.inl 1)) [])
  (.run (cs 2 (oa::oc::oF::oc::oa::(cs 2 []))) (fun γ=>Gb (dF γ.2)) <|
  .sp (x24.State>(3:Int))
  (.run [bt,oc] (fun γ=>Gb (dT γ.2)) <|
  .leaf (Sum.inr (Sum.inl 1)) [])
  (.run [bf] (fun γ=>Gb (dF γ.2)) <|
  .sp ((↑k11:Int)>(0:Int))
  (.gd (GP .i64 ((↑k11:Int) - 1)) <| .gd ((0:Int)≤((↑k11:Int) - 1)) <| .bd (l_0[(Int.toNat ((↑k11:Int) - 1))]?) fun x36=>.bd (Gbx x36 x24) fun r38=>.run [oc,oa,oc,tc,tc,tw,.op (some true) (.i (Int.toNat ((↑k11:Int) - 1))),.op (some true) (.v [.str x36.Tag,jI x36.From,jI x36.State]),tc,.ret (some true) [.any,.any] (jI r38) [],ta,.op none (.b true),oc] (fun γ=>k2 (dT γ.1.1.1.1.2) (k2 (dT γ.1.1.1.1.2) (k2 (dT γ.1.1.1.1.2) (k2 γ.1.1.1.2 (k2 (dT γ.1.1.1.1.2) (k2 (ix γ.1.1.2 γ.1.2) (k2 (GC (f:=Gy.enc) (z:=2) (fun _=>rfl) γ.1.2) (k2 (dT γ.1.1.1.1.2) (k2 (GU (f:=Gy.enc) (z:=3) (j:=(Int.toNat ((↑k11:Int) - 1))) (fun _=>rfl) γ.1.2 rfl) (k2 (dT γ.1.1.1.1.2) (k2 (dT γ.1.1.1.1.2) (k2 (Gmj x36 x24 r38 γ.2) (k2 (dT γ.1.1.1.1.2) (Gb (dT γ.1.1.1.1.2))))))))))))))) <|
  .sp (r38≥(0:Int))
  (.run [bt,oc] (fun γ=>Gb (dT γ.2)) <|
  .leaf (Sum.inr (Sum.inl 15)) [])
  (.run [bf] (fun γ=>Gb (dF γ.2)) <|
  .gd (GP .i64 ((↑k11:Int)+1)) <| .run [ow,oc] (fun γ=>Gb γ.2) <|
  .leaf (Sum.inl (k11+1)) []))
  (.run [oc,oa,oc,oF,oF,oF,oF,oF,oF,oF,oF,.op none (.b false),oc,bf] (fun γ=>k2 (dF γ.2) (k2 (dF γ.2) (k2 (dF γ.2) (k2 (dF γ.2) (k2 (dF γ.2) (k2 (dF γ.2) (k2 (dF γ.2) (k2 (dF γ.2) (k2 (dF γ.2) (Gb (rfl:false=false))))))))))) <|
  .gd (GP .i64 ((↑k11:Int)+1)) <| .run [ow,oc] (fun γ=>Gb γ.2) <|
  .leaf (Sum.inl (k11+1)) []))))))
  (.run (bt::(cs 2 [])) (fun γ=>Gb (Gu (Gw γ.2))) <|
  .leaf (Sum.inr (Sum.inl r26)) []))
  (.run [bf] (fun γ=>Gb (dF γ.2)) <|
  .leaf (Sum.inr (Sum.inr (()))) [])
def JQ (l_0:(List Gy)):Nat→Option (Nat⊕(Int⊕Unit)):=fun s=>(QD l_0 s).den
def GbK (l_0:(List Gy)):Nat→PS:=fun s=>(54,[(0,.lst (fl Gy.enc l_0) l_0.length),(9,.lst (fl Gy.enc l_0) l_0.length),(10,jI (↑l_0.length:Int)),(11,jI (↑s:Int))],[])
def Gcb:(Int⊕Unit)→Hm:=fun q=>match q with | Sum.inl o=>.ret | Sum.inr (o)=>(.exit 0)
def Gbg (l_0:(List Gy)):(Int⊕Unit)→List (Nat×AV):=fun q=>match q with | Sum.inl o=>[(2,jI o)] | Sum.inr (o)=>[]
def Gbd (l_0:(List Gy)):(Int⊕Unit)→List G6:=fun q=>match q with | Sum.inl o=>[] | Sum.inr (o)=>[]
theorem XI (l_0:(List Gy)) {s:Nat} {r:Int⊕Unit} (h:lp (JQ l_0) s=some r):GI Tryz.prog GT 0 (.loop (GO Tryz.prog 87 [1,1,0,1,0,0])) (GbK l_0 s).st (Gcb r) (PS.st (54,Gbg l_0 r,Gbd l_0 r)):=
 GI.lp_ht 0 400 (GbK l_0) Gcb (fun q=>(54,Gbg l_0 q,Gbd l_0 q)) (QD l_0) (by intro k11; kernel_rfl) h
def ZP (l_0:(List Gy)):HT Int True:=.run (cs 3 [oa]) (fun _=>He) <|
  .sp ((↑l_0.length:Int)>(1024:Int))
  (.run [bt,oc] (fun γ=>Gb (dT γ.2)) <|
  .leaf 3 [])
  (.run (bf::(cs 3 [])) (fun γ=>Gb (dF γ.2)) <|
  .bd (lp (JQ l_0) (0:Nat)) fun qq=>.cs qq (fun o2=>.run [.fcut 0 .ret [(2,jI o2)] [] [] [(0,.any),(9,.any),(10,.any),(11,jI (↑(0:Nat):Int))] []] (fun γ=>k2 (rfl:(jI 0:AV)=jI (↑(0:Nat):Int)) (Gb (XI l_0 (s:=(0:Nat)) (r:=Sum.inl o2) (eS γ.1.2 γ.2)))) <|
  .leaf o2 [])
  (fun o2=>.run [.fcut 0 (.exit 0) [] [] [] [(0,.any),(9,.any),(10,.any),(11,jI (↑(0:Nat):Int))] [],oc] (fun γ=>k2 (rfl:(jI 0:AV)=jI (↑(0:Nat):Int)) (Gb (XI l_0 (s:=(0:Nat)) (r:=Sum.inr (o2)) (eS γ.1.2 γ.2)))) <|
  .leaf 0 []))
def Zg (l_0:(List Gy)):Option Int:=(ZP l_0).den
theorem GcZ (l_0:(List Gy)) (r:Int) (h:Zg l_0=some r):G5 Tryz.prog GT 87 [.lst (fl Gy.enc l_0) l_0.length] (jI r) []:=
 G5.of_ht 400 (ZP l_0) (fun (r:Int)=>jI r) (fun (r:Int)=>[]) (by kernel_rfl) h
def Ggt (s_0:(List UInt8)):(Int×Nat)→HT ((Int×Nat)⊕(Unit⊕Int)) True
 | (v3,k4)=>.run (cs 3 [oa]) (fun _=>He) <|
  .sp ((↑k4:Int)<(↑s_0.length:Int))
  (.run [bt] (fun γ=>Gb (dT γ.2)) <|
  .bd (s_0[k4]?) fun x24=>.sp ((x24.toNat:Int)<(48:Int))
  (.run (cs 2 ((.op none (.i k4))::(.tr (.eqt (.t 14) (.int .u8 (x24.toNat:Int))))::oa::oc::tc::(cs 4 [bt,oc]))) (fun γ=>k2 (ir γ.1.2) (k2 ((Hy γ.1.2):(.int .u8 ((List.getD s_0 k4 0).toNat:Int):AV)=.int .u8 (x24.toNat:Int)) (k2 (dT γ.2) (Gb (rfl:true=true))))) <|
  .leaf (Sum.inr (Sum.inl ())) [])
  (.run (cs 2 [.op none (.i k4),.tr (.eqt (.t 14) (.int .u8 (x24.toNat:Int))),oa,oc,oF,oc,.op none (.i k4),.tr (.eqt (.t 19) (.int .u8 (x24.toNat:Int))),oa,oc]) (fun γ=>k2 (ir γ.1.2) (k2 ((Hy γ.1.2):(.int .u8 ((List.getD s_0 k4 0).toNat:Int):AV)=.int .u8 (x24.toNat:Int)) (k2 (dF γ.2) (k2 (ir γ.1.2) (Gb ((Hy γ.1.2):(.int .u8 ((List.getD s_0 k4 0).toNat:Int):AV)=.int .u8 (x24.toNat:Int))))))) <|
  .sp ((x24.toNat:Int)>(57:Int))
  (.run [bt,oc] (fun γ=>Gb (dT γ.2)) <|
  .leaf (Sum.inr (Sum.inl ())) [])
  (.run [bf] (fun γ=>Gb (dF γ.2)) <|
  .gd (GP .u8 ((x24.toNat:Int) - 48)) <| .gd (GP .i64 ((x24.toNat:Int) - 48)) <| .run (cs 2 ((.op none (.i k4))::(.tr (.eqt (.t 24) (.int .u8 (x24.toNat:Int))))::ow::ow::(cs 2 [oa,oa]))) (fun γ=>k2 (ir γ.1.1.1.1.2) (k2 ((Hy γ.1.1.1.1.2):(.int .u8 ((List.getD s_0 k4 0).toNat:Int):AV)=.int .u8 (x24.toNat:Int)) (k2 γ.1.2 (k2 γ.2 (Gb ((by decide):2≠(0:Int))))))) <|
  .sp ((tmod (↑k4:Int) 2)=(0:Int))
  (.run [bt] (fun γ=>Gb (Gp γ.2)) <|
  .gd (GP .i64 (2*((x24.toNat:Int) - 48))) <| .run (oc::ow::(cs 2 [oa])) (fun γ=>Gb γ.2) <|
  .sp ((2*((x24.toNat:Int) - 48))>(9:Int))
  (.run [bt] (fun γ=>Gb (dT γ.2)) <|
  .gd (GP .i64 ((2*((x24.toNat:Int) - 48)) - 9)) <| .run [oc,ow,oc] (fun γ=>Gb γ.2) <|
  .gd (GP .i64 (v3+((2*((x24.toNat:Int) - 48)) - 9))) <| .run (cs 2 [ow,oc]) (fun γ=>Gb γ.2) <|
  .gd (GP .i64 ((↑k4:Int)+1)) <| .run [oc,ow,oc] (fun γ=>Gb γ.2) <|
  .leaf (Sum.inl ((v3+((2*((x24.toNat:Int) - 48)) - 9)),(k4+1))) [])
  (.run [bf] (fun γ=>Gb (dF γ.2)) <|
  .gd (GP .i64 (v3+(2*((x24.toNat:Int) - 48)))) <| .run (cs 2 [ow,oc]) (fun γ=>Gb γ.2) <|
  .gd (GP .i64 ((↑k4:Int)+1)) <| .run [oc,ow,oc] (fun γ=>Gb γ.2) <|
  .leaf (Sum.inl ((v3+(2*((x24.toNat:Int) - 48))),(k4+1))) []))
  (.run [bf,oc,oa] (fun γ=>Gb (Gw γ.2)) <|
  .sp (((x24.toNat:Int) - 48)>(9:Int))
  (.run [bt] (fun γ=>Gb (dT γ.2)) <|
  .gd (GP .i64 (((x24.toNat:Int) - 48) - 9)) <| .run [oc,ow,oc] (fun γ=>Gb γ.2) <|
  .gd (GP .i64 (v3+(((x24.toNat:Int) - 48) - 9))) <| .run (cs 2 [ow,oc]) (fun γ=>Gb γ.2) <|
  .gd (GP .i64 ((↑k4:Int)+1)) <| .run [oc,ow,oc] (fun γ=>Gb γ.2) <|
  .leaf (Sum.inl ((v3+(((x24.toNat:Int) - 48) - 9)),(k4+1))) [])
  (.run [bf] (fun γ=>Gb (dF γ.2)) <|
  .gd (GP .i64 (v3+((x24.toNat:Int) - 48))) <| .run (cs 2 [ow,oc]) (fun γ=>Gb γ.2) <|
  .gd (GP .i64 ((↑k4:Int)+1)) <| .run [oc,ow,oc] (fun γ=>Gb γ.2) <|
  .leaf (Sum.inl ((v3+((x24.toNat:Int) - 48)),(k4+1))) [])))))
  (.run [bf] (fun γ=>Gb (dF γ.2)) <|
  .leaf (Sum.inr (Sum.inr (v3))) [])
def UL (s_0:(List UInt8)):(Int×Nat)→Option ((Int×Nat)⊕(Unit⊕Int)):=fun s=>(Ggt s_0 s).den
def Glv (s_0:(List UInt8)):(Int×Nat)→PS:=fun s=>(40,[(0,.str s_0),(3,jI s.1),(4,jI (↑s.2:Int))],[])
def Glw:(Unit⊕Int)→Hm:=fun q=>match q with | Sum.inl o=>.ret | Sum.inr (o)=>(.exit 0)
def GlW (s_0:(List UInt8)):(Unit⊕Int)→List (Nat×AV):=fun q=>match q with | Sum.inl o=>[(2,jI (-1))] | Sum.inr (o)=>[(3,jI o)]
def GlO (s_0:(List UInt8)):(Unit⊕Int)→List G6:=fun q=>match q with | Sum.inl o=>[] | Sum.inr (o)=>[]
theorem GeK (s_0:(List UInt8)) {s:(Int×Nat)} {r:Unit⊕Int} (h:lp (UL s_0) s=some r):GI Tryz.prog GT 0 (.loop (GO Tryz.prog 189 [1,1,0,1,0,0])) (Glv s_0 s).st (Glw r) (PS.st (40,GlW s_0 r,GlO s_0 r)):=
 GI.lp_ht 0 400 (Glv s_0) Glw (fun q=>(40,GlW s_0 q,GlO s_0 q)) (Ggt s_0) (by rintro ⟨v3,k4⟩; kernel_rfl) h
def Gnk (s_0:(List UInt8)):HT Int True:=.run (cs 3 []) (fun _=>He) <|
  .bd (lp (UL s_0) ((0:Int),(0:Nat))) fun qq=>.cs qq (fun o1=>.run [.fcut 0 .ret [(2,jI (-1))] [] [] [(0,.any),(3,jI (0:Int)),(4,jI (↑(0:Nat):Int))] []] (fun γ=>k2 (rfl:(jI 0:AV)=jI (0:Int)) (k2 (rfl:(jI 0:AV)=jI (↑(0:Nat):Int)) (Gb (GeK s_0 (s:=((0:Int),(0:Nat))) (r:=Sum.inl o1) (eS γ.1.2 γ.2))))) <|
  .leaf (-1) [])
  (fun o1=>.run ((.fcut 0 (.exit 0) [(3,jI o1)] [] [] [(0,.any),(3,jI (0:Int)),(4,jI (↑(0:Nat):Int))] [])::(cs 2 [])) (fun γ=>k2 (rfl:(jI 0:AV)=jI (0:Int)) (k2 (rfl:(jI 0:AV)=jI (↑(0:Nat):Int)) (Gb (GeK s_0 (s:=((0:Int),(0:Nat))) (r:=Sum.inr (o1)) (eS γ.1.2 γ.2))))) <|
  .leaf o1 [])
def Gp5 (s_0:(List UInt8)):Option Int:=(Gnk s_0).den
theorem GsN (s_0:(List UInt8)) (r:Int) (h:Gp5 s_0=some r):G5 Tryz.prog GT 189 [.str s_0] (jI r) []:=
 G5.of_ht 400 (Gnk s_0) (fun (r:Int)=>jI r) (fun (r:Int)=>[]) (by kernel_rfl) h
def Gim (s_0:(List UInt8)):HT Int True:=.run (cs 3 [oa]) (fun _=>He) <|
  .sp ((↑s_0.length:Int)=(12:Int))
  (.run [bf] (fun γ=>Gb (Gs (Gp γ.2))) <|
  .bd (Gp5 s_0) fun r2=>.run [oc,.ret none [.any] (jI r2) [],oc] (fun γ=>Gb (GsN s_0 r2 γ.2)) <|
  .sp (r2<(0:Int))
  (.run (oc::oa::oc::tc::(cs 3 [bt,oc])) (fun γ=>k2 (dT γ.2) (Gb (rfl:true=true))) <|
  .leaf 18 [])
  (.run [oc,oa,oc,oF,oa,oa,oc] (fun γ=>k2 (dF γ.2) (Gb ((by decide):10≠(0:Int)))) <|
  .sp ((tmod r2 10)=(0:Int))
  (.run [bf,oc] (fun γ=>Gb (Gs (Gp γ.2))) <|
  .leaf 0 [])
  (.run [bt,oc] (fun γ=>Gb (Gu (Gw γ.2))) <|
  .leaf 18 [])))
  (.run [bt,oc] (fun γ=>Gb (Gu (Gw γ.2))) <|
  .leaf 18 [])
def GeM (s_0:(List UInt8)):Option Int:=(Gim s_0).den
theorem Gj4 (s_0:(List UInt8)) (r:Int) (h:GeM s_0=some r):G5 Tryz.prog GT 118 [.str s_0] (jI r) []:=
 G5.of_ht 400 (Gim s_0) (fun (r:Int)=>jI r) (fun (r:Int)=>[]) (by kernel_rfl) h
def GiQ (a_0:Gy) (b_1:Gy):HT Bool True:=.run (cs 7 [oa]) (fun _=>He) <|
  .sp (a_0.Tag=b_1.Tag)
  (.run (bf::(cs 4 [oa,oc])) (fun γ=>Gb (Gs (Gp γ.2))) <|
  .leaf (decide (a_0.From>b_1.From)) [])
  (.run (bt::(cs 4 [oa,oc])) (fun γ=>Gb (Gu (Gw γ.2))) <|
  .leaf (!(Op.bytesLess a_0.Tag b_1.Tag||a_0.Tag==b_1.Tag)) [])
def Gjm (a_0:Gy) (b_1:Gy):Option Bool:=(GiQ a_0 b_1).den
theorem GoS (a_0:Gy) (b_1:Gy) (r:Bool) (h:Gjm a_0 b_1=some r):G5 Tryz.prog GT 119 [.agg (Gy.enc a_0),.agg (Gy.enc b_1)] (.bool r) []:=
 G5.of_ht 400 (GiQ a_0 b_1) (fun (r:Bool)=>.bool r) (fun (r:Bool)=>[]) (by kernel_rfl) h
def Ra (l_0:(List Gy)):Nat→HT (Nat⊕(Int⊕Unit)) True
 | k3=>.run (cs 3 [oa]) (fun _=>He) <|
  .sp ((↑k3:Int)<(↑l_0.length:Int))
  (.run [bt] (fun γ=>Gb (dT γ.2)) <|
  .bd (l_0[k3]?) fun x24=>.run (cs 2 ((.op none (.i k3))::(.op none (.v [.str x24.Tag,jI x24.From,jI x24.State]))::(cs 2 []))) (fun γ=>k2 (ir γ.2) (k2 (GC (f:=Gy.enc) (z:=2) (fun _=>rfl) γ.2) (Gb (GU (f:=Gy.enc) (z:=3) (j:=k3) (fun _=>rfl) γ.2 rfl)))) <|
  .bd (GeM x24.Tag) fun r26=>.run (cs 2 [.ret none [.any] (jI r26) [],oa]) (fun γ=>Gb (Gj4 x24.Tag r26 γ.2)) <|
  .sp (r26=(0:Int))
  (.run [bf] (fun γ=>Gb (Gs (Gp γ.2))) <|
  .sp (x24.From<(0:Int))
  (.run (cs 2 (oa::oc::tc::(cs 3 [bt,oc]))) (fun γ=>k2 (dT γ.2) (Gb (rfl:true=true))) <|
  .leaf (Sum.inr (Sum.inl 12)) [])
  (.run (cs 2 [oa,oc,oF,oc,oa,oc]) (fun γ=>Gb (dF γ.2)) <|
  .sp (x24.From≥(68719476736:Int))
  (.run [bt,oc] (fun γ=>Gb (dT γ.2)) <|
  .leaf (Sum.inr (Sum.inl 12)) [])
  (.run [bf] (fun γ=>Gb (dF γ.2)) <|
  .sp (x24.State<(1:Int))
  (.run (cs 2 (oa::oc::tc::(cs 3 [bt,oc]))) (fun γ=>k2 (dT γ.2) (Gb (rfl:true=true))) <|
  .leaf (Sum.inr (Sum.inl 1)) [])
  (.run (cs 2 [oa,oc,oF,oc,oa,oc]) (fun γ=>Gb (dF γ.2)) <|
  .sp (x24.State>(3:Int))
  (.run [bt,oc] (fun γ=>Gb (dT γ.2)) <|
  .leaf (Sum.inr (Sum.inl 1)) [])
  (.run [bf] (fun γ=>Gb (dF γ.2)) <|
  .sp ((↑k3:Int)>(0:Int))
  (.gd (GP .i64 ((↑k3:Int) - 1)) <| .gd ((0:Int)≤((↑k3:Int) - 1)) <| .bd (l_0[(Int.toNat ((↑k3:Int) - 1))]?) fun x36=>.bd (Gjm x24 x36) fun r38=>.run [oc,oa,oc,tc,tc,tc,tw,.op (some true) (.i (Int.toNat ((↑k3:Int) - 1))),.op (some true) (.v [.str x36.Tag,jI x36.From,jI x36.State]),.ret (some true) [.any,.any] (.bool r38) [],tc,.op none (.b true)] (fun γ=>k2 (dT γ.1.1.1.1.2) (k2 (dT γ.1.1.1.1.2) (k2 (dT γ.1.1.1.1.2) (k2 (dT γ.1.1.1.1.2) (k2 γ.1.1.1.2 (k2 (dT γ.1.1.1.1.2) (k2 (ix γ.1.1.2 γ.1.2) (k2 (GC (f:=Gy.enc) (z:=2) (fun _=>rfl) γ.1.2) (k2 (dT γ.1.1.1.1.2) (k2 (GU (f:=Gy.enc) (z:=3) (j:=(Int.toNat ((↑k3:Int) - 1))) (fun _=>rfl) γ.1.2 rfl) (k2 (dT γ.1.1.1.1.2) (k2 (GoS x24 x36 r38 γ.2) (k2 (dT γ.1.1.1.1.2) (Gb (dT γ.1.1.1.1.2))))))))))))))) <|
  .sp (r38=true)
  (.run [bf] (fun γ=>Gb ((Gs γ.2):(!r38)=false)) <|
  .gd (GP .i64 ((↑k3:Int)+1)) <| .run [oc,ow,oc] (fun γ=>Gb γ.2) <|
  .leaf (Sum.inl (k3+1)) [])
  (.run [bt,oc] (fun γ=>Gb ((Gu (eq_false_of_ne_true γ.2)):(!r38)=true)) <|
  .leaf (Sum.inr (Sum.inl 15)) []))
  (.run [oc,oa,oc,oF,oF,oF,oF,oF,oF,oF,oF,.op none (.b false),bf] (fun γ=>k2 (dF γ.2) (k2 (dF γ.2) (k2 (dF γ.2) (k2 (dF γ.2) (k2 (dF γ.2) (k2 (dF γ.2) (k2 (dF γ.2) (k2 (dF γ.2) (k2 (dF γ.2) (Gb (rfl:false=false))))))))))) <|
  .gd (GP .i64 ((↑k3:Int)+1)) <| .run [oc,ow,oc] (fun γ=>Gb γ.2) <|
  .leaf (Sum.inl (k3+1)) []))))))
  (.run [bt,oc] (fun γ=>Gb (Gu (Gw γ.2))) <|
  .leaf (Sum.inr (Sum.inl 18)) []))
  (.run [bf] (fun γ=>Gb (dF γ.2)) <|
  .leaf (Sum.inr (Sum.inr (()))) [])
def J9 (l_0:(List Gy)):Nat→Option (Nat⊕(Int⊕Unit)):=fun s=>(Ra l_0 s).den
def Gdv (l_0:(List Gy)):Nat→PS:=fun s=>(50,[(0,.lst (fl Gy.enc l_0) l_0.length),(3,jI (↑s:Int))],[])
def Gdj:(Int⊕Unit)→Hm:=fun q=>match q with | Sum.inl o=>.ret | Sum.inr (o)=>(.exit 0)
def GcM (l_0:(List Gy)):(Int⊕Unit)→List (Nat×AV):=fun q=>match q with | Sum.inl o=>[(2,jI o)] | Sum.inr (o)=>[]
def Gdb (l_0:(List Gy)):(Int⊕Unit)→List G6:=fun q=>match q with | Sum.inl o=>[] | Sum.inr (o)=>[]
theorem Y8 (l_0:(List Gy)) {s:Nat} {r:Int⊕Unit} (h:lp (J9 l_0) s=some r):GI Tryz.prog GT 0 (.loop (GO Tryz.prog 53 [1,1,0,1,0,0])) (Gdv l_0 s).st (Gdj r) (PS.st (50,GcM l_0 r,Gdb l_0 r)):=
 GI.lp_ht 0 400 (Gdv l_0) Gdj (fun q=>(50,GcM l_0 q,Gdb l_0 q)) (Ra l_0) (by intro k3; kernel_rfl) h
def Gcl (l_0:(List Gy)):HT Int True:=.run (cs 3 [oa]) (fun _=>He) <|
  .sp ((↑l_0.length:Int)>(1024:Int))
  (.run [bt,oc] (fun γ=>Gb (dT γ.2)) <|
  .leaf 3 [])
  (.run [bf,oc] (fun γ=>Gb (dF γ.2)) <|
  .bd (lp (J9 l_0) (0:Nat)) fun qq=>.cs qq (fun o2=>.run [.fcut 0 .ret [(2,jI o2)] [] [] [(0,.any),(3,jI (↑(0:Nat):Int))] []] (fun γ=>k2 (rfl:(jI 0:AV)=jI (↑(0:Nat):Int)) (Gb (Y8 l_0 (s:=(0:Nat)) (r:=Sum.inl o2) (eS γ.1.2 γ.2)))) <|
  .leaf o2 [])
  (fun o2=>.run [.fcut 0 (.exit 0) [] [] [] [(0,.any),(3,jI (↑(0:Nat):Int))] [],oc] (fun γ=>k2 (rfl:(jI 0:AV)=jI (↑(0:Nat):Int)) (Gb (Y8 l_0 (s:=(0:Nat)) (r:=Sum.inr (o2)) (eS γ.1.2 γ.2)))) <|
  .leaf 0 []))
def Ga5 (l_0:(List Gy)):Option Int:=(Gcl l_0).den
theorem RM (l_0:(List Gy)) (r:Int) (h:Ga5 l_0=some r):G5 Tryz.prog GT 53 [.lst (fl Gy.enc l_0) l_0.length] (jI r) []:=
 G5.of_ht 400 (Gcl l_0) (fun (r:Int)=>jI r) (fun (r:Int)=>[]) (by kernel_rfl) h
end
set_option maxHeartbeats 4000000
noncomputable section
open Go Go.Proofs
theorem GrQ {σ ρ:Type} {step:σ→Option (σ⊕ρ)} (I:σ→Prop) (m:σ→Nat) (Q:ρ→Prop)
  (h:∀ s,I s→(∃ s',step s=some (.inl s')∧I s'∧m s'<m s)∨(∃ r,step s=some (.inr r)∧Q r)) (s:σ) (hs:I s):∃ r,lp step s=some r∧Q r:=by
 generalize hn:m s=n
 induction n using Nat.strongRecOn generalizing s with
 | ind n ih=>
  rcases h s hs with ⟨s',h1,h2,h3⟩ | ⟨r,h1,h2⟩
  ·rw [Goz h1]; exact ih _ (by omega) s' h2 rfl
  ·exact ⟨r,Gcw h1,h2⟩
theorem Gwo {σ ρ:Type} {step:σ→Option (σ⊕ρ)} (I:σ→Prop) (m:σ→Nat) (r:ρ)
  (h:∀ s,I s→(∃ s',step s=some (.inl s')∧I s'∧m s'<m s)∨step s=some (.inr r)) (s:σ) (hs:I s):lp step s=some r:=by
 obtain ⟨r',h1,rfl⟩:=GrQ I m (fun x=>x=r) (fun s hs=>(h s hs).imp_right fun h=>⟨r,h,rfl⟩) s hs
 exact h1
def dg (c:UInt8):Bool:=decide (48≤c.toNat)&&decide (c.toNat≤57)
theorem GdR {c:UInt8}:dg c=true↔48≤c.toNat∧c.toNat≤57:=by simp [dg]
def lv (i:Nat) (c:UInt8):Int:=if i % 2=0 then (if ((c.toNat:Int) - 48)*2>9 then ((c.toNat:Int) - 48)*2 - 9 else ((c.toNat:Int) - 48)*2) else (c.toNat:Int) - 48
def ls:Nat→List UInt8→Int
 | _,[]=>0
 | i,c::l=>lv i c+ls (i+1) l
theorem GwW (a:List UInt8):∀ (i:Nat) (b:List UInt8),ls i (a++b)=ls i a+ls (i+a.length) b:=by
 induction a with
 | nil=>intro i b; simp [ls]
 | cons c a ih=>
  intro i b
  simp only [List.cons_append,ls,ih,List.length_cons]
  rw [show i+1+a.length=i+(a.length+1) by omega]; omega
theorem Gvz {i:Nat} {c:UInt8} (h:dg c=true):0≤lv i c∧lv i c≤9:=by
 have:=GdR.1 h
 unfold lv
 split
 ·split <;> omega
 ·omega
theorem GjN (l:List UInt8):∀ (i:Nat),(∀ c ∈ l,dg c=true)→0≤ls i l∧ls i l≤9*l.length:=by
 induction l with
 | nil=>intro i _; simp [ls]
 | cons c l ih=>
  intro i h
  have h1:=Gvz (i:=i) (h c List.mem_cons_self)
  have h2:=ih (i+1) (fun x hx=>h x (List.mem_cons_of_mem _ hx))
  simp only [ls,List.length_cons]; omega
theorem Gs6 (s:List UInt8) (k:Nat) (c:UInt8) (h:s[k]?=some c):ls 0 (s.take (k+1))=ls 0 (s.take k)+lv k c:=by
 have hk:k<s.length:=(List.getElem?_eq_some_iff.1 h).1
 rw [List.take_add_one,h,Option.toList_some,GwW,List.length_take]
 simp only [ls]
 rw [show 0+min k s.length=k by omega]; omega
theorem GtC (s:List UInt8) (n:Int):Gd6 s n=some (s.all dg&&((s.length:Int)==n)):=by
 simp only [Gd6,Gea,d1,d2,d3,d4,d5,d6,d7]
 have key:=GrQ (step:=MV s n) (fun k:Nat=>k≤s.length∧∀ c ∈ s.take k,dg c=true) (fun k=>s.length - k) (fun r=>(r=.inl ()∧s.all dg=false)∨(r=.inr ()∧s.all dg=true)) ?_ 0 ⟨Nat.zero_le _,by simp⟩
 ·obtain ⟨r,h,hq⟩:=key
  rw [h,Option.bind_some]
  rcases hq with ⟨rfl,hq⟩ | ⟨rfl,hq⟩
  ·rw [hq]; first | done | rfl
  ·rw [hq]; first | done | rfl
 intro k ⟨h1,h2⟩
 simp only [MV,Yn,d1,d2,d3,d4,d5,d6,d7]
 by_cases hk:k<s.length
 ·rw [if_pos hk,Option.bind_some]
  by_cases ha:s[k].toNat<128
  ·rw [GkQ s k hk ha]
   dsimp only
   by_cases h48:(s[k].toNat:Int)<48
   ·rw [if_pos h48]
    refine .inr ⟨_,rfl,.inl ⟨rfl,?_⟩⟩
    rw [List.all_eq_false]
    exact ⟨s[k],List.getElem_mem hk,by rw [GdR]; omega⟩
   ·rw [if_neg h48]
    by_cases h57:(s[k].toNat:Int)>57
    ·rw [if_pos h57]
     refine .inr ⟨_,rfl,.inl ⟨rfl,?_⟩⟩
     rw [List.all_eq_false]
     exact ⟨s[k],List.getElem_mem hk,by rw [GdR]; omega⟩
    ·rw [if_neg h57]
     refine .inl ⟨_,rfl,⟨hk,?_⟩,by omega⟩
     intro c hc
     rw [List.take_add_one,List.getElem?_eq_getElem hk,Option.toList_some,List.mem_append,List.mem_singleton] at hc
     rcases hc with hc | rfl
     ·exact h2 c hc
     ·rw [GdR]; omega
  ·have hd:=Gro s k hk (by omega)
   rw [if_neg (by omega),if_pos (by omega)]
   refine .inr ⟨_,rfl,.inl ⟨rfl,?_⟩⟩
   rw [List.all_eq_false]
   exact ⟨s[k],List.getElem_mem hk,by rw [GdR]; omega⟩
 ·rw [if_neg hk]
  refine .inr ⟨_,rfl,.inr ⟨rfl,?_⟩⟩
  rw [List.take_of_length_le (by omega)] at h2
  rw [List.all_eq_true]; exact h2
theorem Gwk (s:List UInt8) (hs:s.length≤1000) (hd:∀ c ∈ s,dg c=true):Gje s=some (ls 0 s):=by
 simp only [Gje,GiH,d1,d2,d3,d4,d5,d6,d7]
 rw [Gwo (step:=Q5 s) (fun p:Int×Nat=>p.2≤s.length∧p.1=ls 0 (s.take p.2)) (fun p=>s.length - p.2) (ls 0 s) ?_ (0,0) ⟨Nat.zero_le _,by simp [ls]⟩]; rfl
 rintro ⟨v,k⟩ ⟨h1,h2⟩
 dsimp only at h1 h2
 simp only [Q5,Gcp,d1,d2,d3,d4,d5,d6,d7]
 by_cases hk:k<s.length
 ·have hx:s[k]?=some s[k]:=List.getElem?_eq_getElem hk
  have hc:=GdR.1 (hd _ (List.getElem_mem hk))
  have hb:=GjN (s.take k) 0 (fun c hc=>hd c (List.mem_of_mem_take hc))
  rw [List.length_take] at hb
  have ht:=Gs6 s k _ hx
  rw [if_pos hk,GkQ s k hk (by omega),Option.bind_some]
  dsimp only
  have i32:GP .i32 ((s[k].toNat:Int) - 48):=GvK.2 (by omega)
  rw [if_pos i32,if_pos (Re.2 (by omega)),show tmod (k:Int) 2=((k % 2:Nat):Int) by rw [Int.tmod_eq_emod_of_nonneg (by omega)]; omega]
  unfold lv at ht
  by_cases hp:k % 2=0
  ·rw [if_pos hp] at ht
   rw [if_pos (by omega),if_pos (Re.2 (by omega))]
   by_cases h9:((s[k].toNat:Int) - 48)*2>9
   ·rw [if_pos h9] at ht ⊢
    rw [if_pos (Re.2 (by omega)),if_pos (Re.2 (by omega))]
    exact .inl ⟨_,rfl,⟨hk,by dsimp only; omega⟩,by dsimp only; omega⟩
   ·rw [if_neg h9] at ht ⊢
    rw [if_pos (Re.2 (by omega))]
    exact .inl ⟨_,rfl,⟨hk,by dsimp only; omega⟩,by dsimp only; omega⟩
  ·rw [if_neg hp] at ht
   rw [if_neg (by omega),if_pos (Re.2 (by omega))]
   exact .inl ⟨_,rfl,⟨hk,by dsimp only; omega⟩,by dsimp only; omega⟩
 ·rw [if_neg hk]
  rw [List.take_of_length_le (by omega)] at h2
  exact .inr (by rw [h2])
theorem Gwj (s:List UInt8) (hs:s.length≤1000):Gp5 s=some (if s.all dg=true then ls 0 s else -1):=by
 simp only [Gp5,Gnk,d1,d2,d3,d4,d5,d6,d7]
 have key:=GrQ (step:=UL s) (fun p:Int×Nat=>p.2≤s.length∧p.1=ls 0 (s.take p.2)∧∀ c ∈ s.take p.2,dg c=true) (fun p=>s.length - p.2)
  (fun r=>(r=.inl ()∧s.all dg=false)∨(r=.inr (ls 0 s)∧s.all dg=true)) ?_ (0,0) ⟨Nat.zero_le _,by simp [ls],by simp⟩
 ·obtain ⟨r,h,hq⟩:=key
  rw [h,Option.bind_some]
  rcases hq with ⟨rfl,hq⟩ | ⟨rfl,hq⟩
  ·rw [hq]; first | done | rfl
  ·rw [hq]; first | done | rfl
 rintro ⟨v,k⟩ ⟨h1,h2,h3⟩
 dsimp only at h1 h2 h3
 simp only [UL,Ggt,d1,d2,d3,d4,d5,d6,d7]
 by_cases hk:k<s.length
 ·have hx:s[k]?=some s[k]:=List.getElem?_eq_getElem hk
  rw [if_pos (by omega),hx,Option.bind_some]
  by_cases h48:(s[k].toNat:Int)<48
  ·rw [if_pos h48]
   refine .inr ⟨_,rfl,.inl ⟨rfl,?_⟩⟩
   rw [List.all_eq_false]
   exact ⟨s[k],List.getElem_mem hk,by rw [GdR]; omega⟩
  rw [if_neg h48]
  by_cases h57:(s[k].toNat:Int)>57
  ·rw [if_pos h57]
   refine .inr ⟨_,rfl,.inl ⟨rfl,?_⟩⟩
   rw [List.all_eq_false]
   exact ⟨s[k],List.getElem_mem hk,by rw [GdR]; omega⟩
  rw [if_neg h57]
  have hb:=GjN (s.take k) 0 h3
  rw [List.length_take] at hb
  have ht:=Gs6 s k _ hx
  have hall:∀ c ∈ s.take (k+1),dg c=true:=by
   intro c hc
   rw [List.take_add_one,hx,Option.toList_some,List.mem_append,List.mem_singleton] at hc
   rcases hc with hc | rfl
   ·exact h3 c hc
   ·rw [GdR]; omega
  have i8:GP .u8 ((s[k].toNat:Int) - 48):=Guw.2 (by omega)
  have ik:GP .i64 ((k:Int)+1):=Re.2 (by omega)
  rw [if_pos i8,if_pos (Re.2 (by omega)),show tmod (k:Int) 2=((k % 2:Nat):Int) by rw [Int.tmod_eq_emod_of_nonneg (by omega)]; omega]
  unfold lv at ht
  by_cases hp:k % 2=0
  ·rw [if_pos hp] at ht
   rw [if_pos (by omega),if_pos (Re.2 (by omega))]
   by_cases h9:((s[k].toNat:Int) - 48)*2>9
   ·rw [if_pos h9] at ht
    rw [if_pos (show 2*((s[k].toNat:Int) - 48)>9 by omega),if_pos (Re.2 (by omega)),if_pos (Re.2 (by omega)),if_pos ik]
    exact .inl ⟨_,rfl,⟨hk,by dsimp only; omega,hall⟩,by dsimp only; omega⟩
   ·rw [if_neg h9] at ht
    rw [if_neg (show ¬ 2*((s[k].toNat:Int) - 48)>9 by omega),if_pos (Re.2 (by omega)),if_pos ik]
    exact .inl ⟨_,rfl,⟨hk,by dsimp only; omega,hall⟩,by dsimp only; omega⟩
  ·rw [if_neg hp] at ht
   rw [if_neg (by omega),if_neg (by omega),if_pos (Re.2 (by omega)),if_pos ik]
   exact .inl ⟨_,rfl,⟨hk,by dsimp only; omega,hall⟩,by dsimp only; omega⟩
 ·rw [if_neg (by omega)]
  rw [List.take_of_length_le (by omega)] at h2 h3
  exact .inr ⟨_,rfl,.inr ⟨by rw [h2],List.all_eq_true.2 h3⟩⟩
def chk (s:List UInt8):Int:=if (s.all dg&&decide (s.length=12)&&decide (ls 0 s % 10=0))=true then 0 else 18
theorem Gqo (s:List UInt8):Gdw s=some (chk s):=by
 simp only [Gdw,GfZ,chk,d1,d2,d3,d4,d5,d6,d7]
 rw [GtC,Option.bind_some]
 cases hd:s.all dg with
 | false=>rfl
 | true=>
  have hd':=List.all_eq_true.1 hd
  by_cases hl:s.length=12
  ·have hb:=GjN s 0 hd'
   rw [if_pos (by rw [hl]; rfl),Gwk s (by omega) hd',Option.bind_some,Int.tmod_eq_emod_of_nonneg hb.1]
   by_cases h0:ls 0 s % 10=0
   ·rw [if_pos h0,if_pos (by simp [hl,h0])]
   ·rw [if_neg h0,if_neg (by simp [h0])]
  ·rw [if_neg (by simp; omega),if_neg (by simp [hl])]
theorem Got (s:List UInt8):GeM s=some (chk s):=by
 simp only [GeM,Gim,chk,d1,d2,d3,d4,d5,d6,d7]
 by_cases hl:s.length=12
 ·rw [if_pos (by omega),Gwj s (by omega),Option.bind_some]
  cases hd:s.all dg with
  | false=>rfl
  | true=>
   have hb:=GjN s 0 (List.all_eq_true.1 hd)
   rw [if_pos rfl,if_neg (by omega),Int.tmod_eq_emod_of_nonneg hb.1]
   by_cases h0:ls 0 s % 10=0
   ·rw [if_pos h0,if_pos (by simp [hl,h0])]
   ·rw [if_neg h0,if_neg (by simp [h0])]
 ·rw [if_neg (by omega),if_neg (by simp [hl])]
theorem Gvx (s:List UInt8):chk s=0∨chk s=18:=by
 unfold chk; split <;> simp
theorem Gu3:∀ (a b:List UInt8),(Go.Lib.compareBytes a b=0∧a=b)∨(Go.Lib.compareBytes a b = -1∧a≠b∧Op.bytesLess b a=false)∨(Go.Lib.compareBytes a b=1∧a≠b∧Op.bytesLess b a=true)
 | [],[]=>.inl ⟨rfl,rfl⟩
 | [],b::l=>.inr (.inl ⟨rfl,by simp,rfl⟩)
 | a::l,[]=>.inr (.inr ⟨rfl,by simp,rfl⟩)
 | a::x,b::y=>by
  unfold Go.Lib.compareBytes Op.bytesLess
  by_cases h1:a<b
  ·have h2:¬ b<a:=by rw [UInt8.lt_iff_toNat_lt] at *; omega
   have h3:a≠b:=by rintro rfl; rw [UInt8.lt_iff_toNat_lt] at h1; omega
   rw [if_pos h1]
   refine .inr (.inl ⟨rfl,fun h=>h3 (List.cons.inj h).1,?_⟩)
   simp [h2,Ne.symm h3]
  ·rw [if_neg h1]
   by_cases h2:b<a
   ·rw [if_pos h2]
    have h3:a≠b:=by rintro rfl; exact h1 h2
    exact .inr (.inr ⟨rfl,fun h=>h3 (List.cons.inj h).1,by simp [h2]⟩)
   ·rw [if_neg h2]
    have h3:a=b:=by
     apply UInt8.toNat_inj.1
     rw [UInt8.lt_iff_toNat_lt] at h1 h2; omega
    subst h3
    rcases Gu3 x y with ⟨h,rfl⟩ | ⟨h,h4,h5⟩ | ⟨h,h4,h5⟩
    ·exact .inl ⟨h,rfl⟩
    ·exact .inr (.inl ⟨h,fun e=>h4 (List.cons.inj e).2,by simp [h2,h5]⟩)
    ·exact .inr (.inr ⟨h,fun e=>h4 (List.cons.inj e).2,by simp [h5]⟩)
def Gn1 (a b:Gy):Int:=if Go.Lib.compareBytes a.Tag b.Tag=0 then (if a.From<b.From then -1 else if a.From>b.From then 1 else 0) else Go.Lib.compareBytes a.Tag b.Tag
theorem GsY (a b:Gy):Gbx a b=some (Gn1 a b):=by
 simp only [Gbx,GcF,GwN,Gn1,d1,d2,d3,d4,d5,d6,d7]
 rw [Option.bind_some,if_pos trivial,if_pos trivial]
 by_cases h1:a.From<b.From
 ·rw [if_pos h1,if_pos h1]; split <;> rfl
 ·rw [if_neg h1,if_neg h1]
  by_cases h2:a.From>b.From
  ·rw [if_pos h2,if_pos h2]; split <;> rfl
  ·rw [if_neg h2,if_neg h2]; split <;> rfl
theorem Gvf (x p:Gy):Gjm x p=some (decide (Gn1 p x<0)):=by
 simp only [Gjm,GiQ,d1,d2,d3,d4,d5,d6,d7]
 rcases Gu3 p.Tag x.Tag with ⟨h,e⟩ | ⟨h,e,l⟩ | ⟨h,e,l⟩
 ·rw [if_pos e.symm]
  have:Gn1 p x=if p.From<x.From then -1 else if p.From>x.From then 1 else 0:=by unfold Gn1; rw [if_pos h]
  rw [this]
  by_cases h1:p.From<x.From
  ·rw [if_pos h1]; simp [h1]
  ·rw [if_neg h1]
   by_cases h2:p.From>x.From
   ·rw [if_pos h2]; simp; omega
   ·rw [if_neg h2]; simp; omega
 ·have:Gn1 p x = -1:=by unfold Gn1; rw [h]; rfl
  rw [if_neg (Ne.symm e),this,l]
  simp [Ne.symm e]
 ·have:Gn1 p x=1:=by unfold Gn1; rw [h]; rfl
  rw [if_neg (Ne.symm e),this,l]
  rfl
def GrW (l:List Gy) (k:Nat) (x:Gy):Option Int:=
 if chk x.Tag≠0 then some 18 else if x.From<0∨x.From≥68719476736 then some 12 else if x.State<1∨x.State>3 then some 1
 else if 0<k∧0≤((l[k - 1]?).map (Gn1 · x)).getD 0 then some 15 else none
def Go5 (l:List Gy):Int:=if l.length>1024 then 3 else (GK (GrW l) 0 l).getD 0
theorem Gmb (l:List Gy):Zg l=some (Go5 l):=by
 simp only [Zg,ZP,d1,d2,d3,d4,d5,d6,d7,Go5]
 by_cases hl:l.length>1024
 ·rw [if_pos (by omega),if_pos hl]
 rw [if_neg (by omega),if_neg hl]
 have hs:Sm l:=by show _≤_; omega
 have key:lp (JQ l) 0=some (HL (GK (GrW l) 0 l)):=by
  refine GQ (fun k x hx=>?_) ?_
  ·have hk:=Hg hx
   have i1:=sm1 hs hk
   have i2:GP .i64 ((k:Int) - 1):=KV (by omega) (by omega)
   have hkl:(k:Int)<(l.length:Int):=by omega
   have h1:l[k - 1]?=some l[k - 1]:=List.getElem?_eq_getElem (by omega)
   have h2:((k:Int) - 1).toNat=k - 1:=by omega
   simp only [JQ,QD,d1,d2,d3,d4,d5,d6,d7,hx,Option.bind_some,Gqo,GsY,h2,h1,i1,i2,if_true,hkl,GrW,Option.map_some,Option.getD_some]
   clear i1 i2 hs
   rcases Gvx x.Tag with h | h <;> simp only [h] <;> grind [KC]
  ·simp only [JQ,QD,d3,d6,d1]
   rw [if_neg (by omega)]
 rw [key]
 cases GK (GrW l) 0 l <;> rfl
theorem Gkc (l:List Gy):Ga5 l=some (Go5 l):=by
 simp only [Ga5,Gcl,d1,d2,d3,d4,d5,d6,d7,Go5]
 by_cases hl:l.length>1024
 ·rw [if_pos (by omega),if_pos hl]
 rw [if_neg (by omega),if_neg hl]
 have hs:Sm l:=by show _≤_; omega
 have key:lp (J9 l) 0=some (HL (GK (GrW l) 0 l)):=by
  refine GQ (fun k x hx=>?_) ?_
  ·have hk:=Hg hx
   have i1:=sm1 hs hk
   have i2:GP .i64 ((k:Int) - 1):=KV (by omega) (by omega)
   have hkl:(k:Int)<(l.length:Int):=by omega
   have h1:l[k - 1]?=some l[k - 1]:=List.getElem?_eq_getElem (by omega)
   have h2:((k:Int) - 1).toNat=k - 1:=by omega
   simp only [J9,Ra,d1,d2,d3,d4,d5,d6,d7,hx,Option.bind_some,Got,Gvf,h2,h1,i1,i2,if_true,hkl,GrW,Option.map_some,Option.getD_some]
   clear i1 i2 hs
   rcases Gvx x.Tag with h | h <;> simp only [h] <;> grind [KC]
  ·simp only [J9,Ra,d3,d6,d1]
   rw [if_neg (by omega)]
 rw [key]
 cases GK (GrW l) 0 l <;> rfl
end
set_option maxHeartbeats 4000000
set_option maxRecDepth 100000
noncomputable section
open Go Go.Proofs
def GiP (n_0:Int):HT Bool True:=.run [oc] (fun _=>He) <|
  .sp (n_0≥(1:Int))
  (.run (oc::oa::oc::tc::oa::(cs 2 [])) (fun γ=>Gb (dT γ.2)) <|
  .leaf (decide (n_0≤(9:Int))) [])
  (.run (oc::oa::oc::oF::(cs 3 [])) (fun γ=>Gb (dF γ.2)) <|
  .leaf false [])
def GjD (n_0:Int):Option Bool:=(GiP n_0).den
theorem Gp7 (n_0:Int) (r:Bool) (h:GjD n_0=some r):G5 Tryz.prog GT 171 [jI n_0] (.bool r) []:=
 G5.of_ht 400 (GiP n_0) (fun (r:Bool)=>.bool r) (fun (r:Bool)=>[]) (by kernel_rfl) h
def Rc (l_0:(List Gj)):(Nat×(List Bool))→HT ((Nat×(List Bool))⊕((Int×(List Bool))⊕(List Bool))) True
 | (k11,b0)=>.run [oa] (fun _=>He) <|
  .sp ((↑k11:Int)<(↑l_0.length:Int))
  (.run [bt] (fun γ=>Gb (dT γ.2)) <|
  .bd (l_0[k11]?) fun x58=>.run (oc::(.op none (.i k11))::(.op none (.v [jI x58.From,jI x58.To,jI x58.Class]))::(cs 3 [])) (fun γ=>k2 (ir γ.2) (k2 (GC (f:=Gj.enc) (z:=2) (fun _=>rfl) γ.2) (Gb (GU (f:=Gj.enc) (z:=3) (j:=k11) (fun _=>rfl) γ.2 rfl)))) <|
  .sp (x58.From<(1:Int))
  (.run (cs 2 (oa::oc::tc::(cs 11 [bt,oc]))) (fun γ=>k2 (dT γ.2) (Gb (rfl:true=true))) <|
  .leaf (Sum.inr (Sum.inl (1,b0))) [0])
  (.sp (x58.From>x58.To)
  (.run (cs 2 (oa::oc::oF::(cs 3 (oa::(cs 2 (tc::(cs 4 [bt,oc]))))))) (fun γ=>k2 (dF γ.1.2) (k2 (dT γ.2) (Gb (rfl:true=true)))) <|
  .leaf (Sum.inr (Sum.inl (1,b0))) [0])
  (.run (cs 2 (oa::oc::oF::(cs 3 (oa::(cs 2 (oF::oc::oa::(cs 2 []))))))) (fun γ=>k2 (dF γ.1.2) (Gb (dF γ.2))) <|
  .sp (x58.To>(20:Int))
  (.run [bt,oc] (fun γ=>Gb (dT γ.2)) <|
  .leaf (Sum.inr (Sum.inl (1,b0))) [0])
  (.run [bf] (fun γ=>Gb (dF γ.2)) <|
  .bd (GjD x58.Class) fun r63=>.run (cs 2 ((.ret none [.any] (.bool r63) [])::(cs 2 []))) (fun γ=>Gb (Gp7 x58.Class r63 γ.2)) <|
  .sp (r63=true)
  (.run [bf] (fun γ=>Gb ((Gs γ.2):(!r63)=false)) <|
  .sp ((↑k11:Int)>(0:Int))
  (.gd (GP .i64 ((↑k11:Int) - 1)) <| .gd ((0:Int)≤((↑k11:Int) - 1)) <| .bd (l_0[(Int.toNat ((↑k11:Int) - 1))]?) fun x69=>.run [oc,oa,oc,tc,tc,tc,tc,tw,.op (some true) (.i (Int.toNat ((↑k11:Int) - 1))),tc,.op (some true) (.v [jI x69.To]),ta,.op none (.b true),oc] (fun γ=>k2 (dT γ.1.1.1.2) (k2 (dT γ.1.1.1.2) (k2 (dT γ.1.1.1.2) (k2 (dT γ.1.1.1.2) (k2 (dT γ.1.1.1.2) (k2 γ.1.1.2 (k2 (dT γ.1.1.1.2) (k2 (ix γ.1.2 γ.2) (k2 (GC (f:=Gj.enc) (z:=2) (fun _=>rfl) γ.2) (k2 (dT γ.1.1.1.2) (k2 (dT γ.1.1.1.2) (k2 (GL (f:=Gj.enc) (z:=3) (j:=(Int.toNat ((↑k11:Int) - 1))) (a:=1) (n:=1) (fun _=>rfl) γ.2 (by decide) rfl) (k2 (dT γ.1.1.1.2) (Gb (dT γ.1.1.1.2))))))))))))))) <|
  .sp (x58.From≤x69.To)
  (.run [bt,oc] (fun γ=>Gb (dT γ.2)) <|
  .leaf (Sum.inr (Sum.inl (15,b0))) [0])
  (.run [bf] (fun γ=>Gb (dF γ.2)) <|
  .gd ((0:Int)≤x58.Class) <| .gd ((Int.toNat x58.Class)<10) <| .bd (b0[(Int.toNat x58.Class)]?) fun x74=>.run (cs 2 [.op none (.i (Int.toNat x58.Class)),.op none (.v [.bool x74]),oc]) (fun γ=>k2 (iy γ.1.1.2 γ.1.2) (Gb (Gsb γ.2))) <|
  .sp (x74=true)
  (.run [bt,oc] (fun γ=>Gb γ.2) <|
  .leaf (Sum.inr (Sum.inl (9,b0))) [0])
  (.run (bf::(cs 2 [.op none (.i (Int.toNat x58.Class)),oa,.tr (.eqc 0 (fl J1 (List.set b0 (Int.toNat x58.Class) true)))])) (fun γ=>k2 ((eq_false_of_ne_true γ.2):x74=false) (k2 (iy γ.1.1.1.2 γ.1.1.2) (k2 (Gps γ.1.2) (Gb (Gqd true γ.1.2))))) <|
  .gd (GP .i64 ((↑k11:Int)+1)) <| .run [ow,oc] (fun γ=>Gb γ.2) <|
  .leaf (Sum.inl ((k11+1),(List.set b0 (Int.toNat x58.Class) true))) [0])))
  (.run [oc,oa,oc,oF,oF,oF,oF,oF,oF,oF,oF,oF,.op none (.b false),oc,bf] (fun γ=>k2 (dF γ.2) (k2 (dF γ.2) (k2 (dF γ.2) (k2 (dF γ.2) (k2 (dF γ.2) (k2 (dF γ.2) (k2 (dF γ.2) (k2 (dF γ.2) (k2 (dF γ.2) (k2 (dF γ.2) (Gb (rfl:false=false)))))))))))) <|
  .gd ((0:Int)≤x58.Class) <| .gd ((Int.toNat x58.Class)<10) <| .bd (b0[(Int.toNat x58.Class)]?) fun x80=>.run (cs 2 [.op none (.i (Int.toNat x58.Class)),.op none (.v [.bool x80]),oc]) (fun γ=>k2 (iy γ.1.1.2 γ.1.2) (Gb (Gsb γ.2))) <|
  .sp (x80=true)
  (.run [bt,oc] (fun γ=>Gb γ.2) <|
  .leaf (Sum.inr (Sum.inl (9,b0))) [0])
  (.run (bf::(cs 2 [.op none (.i (Int.toNat x58.Class)),oa,.tr (.eqc 0 (fl J1 (List.set b0 (Int.toNat x58.Class) true)))])) (fun γ=>k2 ((eq_false_of_ne_true γ.2):x80=false) (k2 (iy γ.1.1.1.2 γ.1.1.2) (k2 (Gps γ.1.2) (Gb (Gqd true γ.1.2))))) <|
  .gd (GP .i64 ((↑k11:Int)+1)) <| .run [ow,oc] (fun γ=>Gb γ.2) <|
  .leaf (Sum.inl ((k11+1),(List.set b0 (Int.toNat x58.Class) true))) [0])))
  (.run [bt,oc] (fun γ=>Gb ((Gu (eq_false_of_ne_true γ.2)):(!r63)=true)) <|
  .leaf (Sum.inr (Sum.inl (20,b0))) [0])))))
  (.run [bf] (fun γ=>Gb (dF γ.2)) <|
  .leaf (Sum.inr (Sum.inr (b0))) [0])
def J2 (l_0:(List Gj)):(Nat×(List Bool))→Option ((Nat×(List Bool))⊕((Int×(List Bool))⊕(List Bool))):=fun s=>(Rc l_0 s).den
def Gdq (l_0:(List Gj)):(Nat×(List Bool))→PS:=fun s=>(60,[(0,.lst (fl Gj.enc l_0) l_0.length),(3,.ptr 0 0),(9,.lst (fl Gj.enc l_0) l_0.length),(10,jI (↑l_0.length:Int)),(11,jI (↑s.1:Int))],[(bT (fl J1 s.2) 289)])
def GcR:((Int×(List Bool))⊕(List Bool))→Hm:=fun q=>match q with | Sum.inl o=>.ret | Sum.inr (o)=>(.exit 0)
def Gdk (l_0:(List Gj)):((Int×(List Bool))⊕(List Bool))→List (Nat×AV):=fun q=>match q with | Sum.inl o=>[(2,jI o.1)] | Sum.inr (o)=>[]
def GcK (l_0:(List Gj)):((Int×(List Bool))⊕(List Bool))→List G6:=fun q=>match q with | Sum.inl o=>[(bT (fl J1 o.2) 289)] | Sum.inr (o)=>[(bT (fl J1 o) 289)]
theorem YK (l_0:(List Gj)) {s:(Nat×(List Bool))} {r:(Int×(List Bool))⊕(List Bool)} (h:lp (J2 l_0) s=some r):GI Tryz.prog GT 1 (.loop (GO Tryz.prog 85 [1,1,1,0,1,0,0])) (Gdq l_0 s).st (GcR r) (PS.st (60,Gdk l_0 r,GcK l_0 r)):=
 GI.lp_ht 1 400 (Gdq l_0) GcR (fun q=>(60,Gdk l_0 q,GcK l_0 q)) (Rc l_0) (by rintro ⟨k11,b0⟩; kernel_rfl) h
def Gcv (l_0:(List Gj)):HT Int True:=.run (cs 3 [oa]) (fun _=>He) <|
  .sp ((↑l_0.length:Int)>(9:Int))
  (.run [bt,oc] (fun γ=>Gb (dT γ.2)) <|
  .leaf 3 [])
  (.run (bf::(cs 4 [])) (fun γ=>Gb (dF γ.2)) <|
  .bd (lp (J2 l_0) ((0:Nat),([false,false,false,false,false,false,false,false,false,false]:(List Bool)))) fun qq=>.cs qq (fun o2=>.run [.fcut 1 .ret [(2,jI o2.1)] [(bT (fl J1 o2.2) 289)] [0] [(0,.any),(3,.any),(9,.any),(10,.any),(11,jI (↑(0:Nat):Int))] [(bT (fl J1 ([false,false,false,false,false,false,false,false,false,false]:(List Bool))) 289)]] (fun γ=>k2 (rfl:(jI 0:AV)=jI (↑(0:Nat):Int)) (k2 (rfl:((bT [.bool false,.bool false,.bool false,.bool false,.bool false,.bool false,.bool false,.bool false,.bool false,.bool false] 289):G6)=MA [0] (bT (fl J1 ([false,false,false,false,false,false,false,false,false,false]:(List Bool))) 289)) (Gb (YK l_0 (s:=((0:Nat),([false,false,false,false,false,false,false,false,false,false]:(List Bool)))) (r:=Sum.inl o2) (eS γ.1.2 γ.2))))) <|
  .leaf o2.1 [])
  (fun o2=>.run [.fcut 1 (.exit 0) [] [(bT (fl J1 o2) 289)] [0] [(0,.any),(3,.any),(9,.any),(10,.any),(11,jI (↑(0:Nat):Int))] [(bT (fl J1 ([false,false,false,false,false,false,false,false,false,false]:(List Bool))) 289)],oc] (fun γ=>k2 (rfl:(jI 0:AV)=jI (↑(0:Nat):Int)) (k2 (rfl:((bT [.bool false,.bool false,.bool false,.bool false,.bool false,.bool false,.bool false,.bool false,.bool false,.bool false] 289):G6)=MA [0] (bT (fl J1 ([false,false,false,false,false,false,false,false,false,false]:(List Bool))) 289)) (Gb (YK l_0 (s:=((0:Nat),([false,false,false,false,false,false,false,false,false,false]:(List Bool)))) (r:=Sum.inr (o2)) (eS γ.1.2 γ.2))))) <|
  .leaf 0 []))
def XT (l_0:(List Gj)):Option Int:=(Gcv l_0).den
theorem YD (l_0:(List Gj)) (r:Int) (h:XT l_0=some r):G5 Tryz.prog GT 85 [.lst (fl Gj.enc l_0) l_0.length] (jI r) []:=
 G5.of_ht 400 (Gcv l_0) (fun (r:Int)=>jI r) (fun (r:Int)=>[]) (by kernel_rfl) h
def GiW (class_0:Int):HT Bool True:=.run [oc] (fun _=>He) <|
  .sp (class_0≥(1:Int))
  (.run (oc::oa::oc::tc::oa::(cs 2 [])) (fun γ=>Gb (dT γ.2)) <|
  .leaf (decide (class_0≤(9:Int))) [])
  (.run (oc::oa::oc::oF::(cs 3 [])) (fun γ=>Gb (dF γ.2)) <|
  .leaf false [])
def Gj3 (class_0:Int):Option Bool:=(GiW class_0).den
theorem Gpp (class_0:Int) (r:Bool) (h:Gj3 class_0=some r):G5 Tryz.prog GT 117 [jI class_0] (.bool r) []:=
 G5.of_ht 400 (GiW class_0) (fun (r:Bool)=>.bool r) (fun (r:Bool)=>[]) (by kernel_rfl) h
def U3 (l_0:(List Gj)) (k3:Nat):Nat→HT (Nat⊕(Unit⊕Unit)) True
 | k4=>.run (cs 2 [oa]) (fun _=>He) <|
  .sp ((↑k4:Int)<(↑k3:Int))
  (.run [bt] (fun γ=>Gb (dT γ.2)) <|
  .bd (l_0[k4]?) fun x74=>.bd (l_0[k3]?) fun x76=>.run (cs 2 ((.op none (.i k4))::oc::(.op none (.v [jI x74.Class]))::(cs 2 [.op none (.i k3),oc,.op none (.v [jI x76.Class]),oa]))) (fun γ=>k2 (ir γ.1.2) (k2 (GC (f:=Gj.enc) (z:=2) (fun _=>rfl) γ.1.2) (k2 (GL (f:=Gj.enc) (z:=3) (j:=k4) (a:=2) (n:=1) (fun _=>rfl) γ.1.2 (by decide) rfl) (k2 (ir γ.2) (k2 (GC (f:=Gj.enc) (z:=2) (fun _=>rfl) γ.2) (Gb (GL (f:=Gj.enc) (z:=3) (j:=k3) (a:=2) (n:=1) (fun _=>rfl) γ.2 (by decide) rfl))))))) <|
  .sp (x74.Class=x76.Class)
  (.run [bt,oc] (fun γ=>Gb (Gp γ.2)) <|
  .leaf (Sum.inr (Sum.inl ())) [])
  (.run [bf] (fun γ=>Gb (Gw γ.2)) <|
  .gd (GP .i64 ((↑k4:Int)+1)) <| .run [oc,ow,oc] (fun γ=>Gb γ.2) <|
  .leaf (Sum.inl (k4+1)) []))
  (.run [bf] (fun γ=>Gb (dF γ.2)) <|
  .leaf (Sum.inr (Sum.inr (()))) [])
def JU (l_0:(List Gj)) (k3:Nat):Nat→Option (Nat⊕(Unit⊕Unit)):=fun s=>(U3 l_0 k3 s).den
def Ge9 (l_0:(List Gj)) (k3:Nat):Nat→PS:=fun s=>(80,[(0,.lst (fl Gj.enc l_0) l_0.length),(3,jI (↑k3:Int)),(4,jI (↑s:Int))],[])
def GfJ:(Unit⊕Unit)→Hm:=fun q=>match q with | Sum.inl o=>.ret | Sum.inr (o)=>(.exit 2)
def Ur (l_0:(List Gj)) (k3:Nat):(Unit⊕Unit)→List (Nat×AV):=fun q=>match q with | Sum.inl o=>[(2,jI 9)] | Sum.inr (o)=>[(0,.lst (fl Gj.enc l_0) l_0.length),(3,jI (↑k3:Int))]
def GfF (l_0:(List Gj)) (k3:Nat):(Unit⊕Unit)→List G6:=fun q=>match q with | Sum.inl o=>[] | Sum.inr (o)=>[]
theorem Qk (l_0:(List Gj)) (k3:Nat) {s:Nat} {r:Unit⊕Unit} (h:lp (JU l_0 k3) s=some r):GI Tryz.prog GT 0 (.loop (GO Tryz.prog 52 [1,1,0,1,0,0,1,0,0,1,1,1,1,0,0])) (Ge9 l_0 k3 s).st (GfJ r) (PS.st (80,Ur l_0 k3 r,GfF l_0 k3 r)):=
 GI.lp_ht 0 400 (Ge9 l_0 k3) GfJ (fun q=>(80,Ur l_0 k3 q,GfF l_0 k3 q)) (U3 l_0 k3) (by intro k4; kernel_rfl) h
def Xd (l_0:(List Gj)):Nat→HT (Nat⊕(Int⊕Unit)) True
 | k3=>.run (cs 3 [oa]) (fun _=>He) <|
  .sp ((↑k3:Int)<(↑l_0.length:Int))
  (.run [bt] (fun γ=>Gb (dT γ.2)) <|
  .bd (l_0[k3]?) fun x51=>.sp (x51.From<(1:Int))
  (.run (cs 2 ((.op none (.i k3))::oc::(.op none (.v [jI x51.From]))::oa::oc::tc::tc::tc::tc::tc::tc::tc::tc::tc::tc::tc::(.op none (.b true))::(cs 8 [bt,oc]))) (fun γ=>k2 (ir γ.1.2) (k2 (GC (f:=Gj.enc) (z:=2) (fun _=>rfl) γ.1.2) (k2 (GL (f:=Gj.enc) (z:=3) (j:=k3) (a:=0) (n:=1) (fun _=>rfl) γ.1.2 (by decide) rfl) (k2 (dT γ.2) (k2 (dT γ.2) (k2 (dT γ.2) (k2 (dT γ.2) (k2 (dT γ.2) (k2 (dT γ.2) (k2 (dT γ.2) (k2 (dT γ.2) (k2 (dT γ.2) (k2 (dT γ.2) (k2 (dT γ.2) (k2 (dT γ.2) (Gb (rfl:true=true))))))))))))))))) <|
  .leaf (Sum.inr (Sum.inl 1)) [])
  (.sp (x51.To<x51.From)
  (.run (cs 2 [.op none (.i k3),oc,.op none (.v [jI x51.From]),oa,oc,oF,oF,.op (some false) (.i k3),oF,.op (some false) (.v [jI x51.To]),oF,oF,.op (some false) (.i k3),oF,.op (some false) (.v [jI x51.From]),oG,.op none (.b false),oc,tc,tc,tc,tc,tc,tc,.op none (.b true),bt,oc]) (fun γ=>k2 (ir γ.1.1.2) (k2 (GC (f:=Gj.enc) (z:=2) (fun _=>rfl) γ.1.1.2) (k2 (GL (f:=Gj.enc) (z:=3) (j:=k3) (a:=0) (n:=1) (fun _=>rfl) γ.1.1.2 (by decide) rfl) (k2 (dF γ.1.2) (k2 (dF γ.1.2) (k2 (dF γ.1.2) (k2 (ir γ.1.1.2) (k2 (GC (f:=Gj.enc) (z:=2) (fun _=>rfl) γ.1.1.2) (k2 (dF γ.1.2) (k2 (dF γ.1.2) (k2 (GL (f:=Gj.enc) (z:=3) (j:=k3) (a:=1) (n:=1) (fun _=>rfl) γ.1.1.2 (by decide) rfl) (k2 (dF γ.1.2) (k2 (dF γ.1.2) (k2 (dF γ.1.2) (k2 (ir γ.1.1.2) (k2 (GC (f:=Gj.enc) (z:=2) (fun _=>rfl) γ.1.1.2) (k2 (dF γ.1.2) (k2 (dF γ.1.2) (k2 (GL (f:=Gj.enc) (z:=3) (j:=k3) (a:=0) (n:=1) (fun _=>rfl) γ.1.1.2 (by decide) rfl) (k2 (dF γ.1.2) (k2 (dF γ.1.2) (k2 (dT γ.2) (k2 (dT γ.2) (k2 (dT γ.2) (k2 (dT γ.2) (k2 (dT γ.2) (k2 (dT γ.2) (k2 (dT γ.2) (Gb (rfl:true=true)))))))))))))))))))))))))))))) <|
  .leaf (Sum.inr (Sum.inl 1)) [])
  (.run (cs 2 [.op none (.i k3),oc,.op none (.v [jI x51.From]),oa,oc,oF,oF,.op (some false) (.i k3),oF,.op (some false) (.v [jI x51.To]),oF,oF,.op (some false) (.i k3),oF,.op (some false) (.v [jI x51.From]),oG,.op none (.b false),oc,oF,oF,.op (some false) (.i k3),oF,.op (some false) (.v [jI x51.To]),oG,.op none (.b false)]) (fun γ=>k2 (ir γ.1.1.2) (k2 (GC (f:=Gj.enc) (z:=2) (fun _=>rfl) γ.1.1.2) (k2 (GL (f:=Gj.enc) (z:=3) (j:=k3) (a:=0) (n:=1) (fun _=>rfl) γ.1.1.2 (by decide) rfl) (k2 (dF γ.1.2) (k2 (dF γ.1.2) (k2 (dF γ.1.2) (k2 (ir γ.1.1.2) (k2 (GC (f:=Gj.enc) (z:=2) (fun _=>rfl) γ.1.1.2) (k2 (dF γ.1.2) (k2 (dF γ.1.2) (k2 (GL (f:=Gj.enc) (z:=3) (j:=k3) (a:=1) (n:=1) (fun _=>rfl) γ.1.1.2 (by decide) rfl) (k2 (dF γ.1.2) (k2 (dF γ.1.2) (k2 (dF γ.1.2) (k2 (ir γ.1.1.2) (k2 (GC (f:=Gj.enc) (z:=2) (fun _=>rfl) γ.1.1.2) (k2 (dF γ.1.2) (k2 (dF γ.1.2) (k2 (GL (f:=Gj.enc) (z:=3) (j:=k3) (a:=0) (n:=1) (fun _=>rfl) γ.1.1.2 (by decide) rfl) (k2 (dF γ.1.2) (k2 (dF γ.1.2) (k2 (dF γ.2) (k2 (dF γ.2) (k2 (dF γ.2) (k2 (ir γ.1.1.2) (k2 (GC (f:=Gj.enc) (z:=2) (fun _=>rfl) γ.1.1.2) (k2 (dF γ.2) (k2 (dF γ.2) (k2 (GL (f:=Gj.enc) (z:=3) (j:=k3) (a:=1) (n:=1) (fun _=>rfl) γ.1.1.2 (by decide) rfl) (k2 (dF γ.2) (Gb (dF γ.2)))))))))))))))))))))))))))))))) <|
  .sp (x51.To>(20:Int))
  (.run [bt,oc] (fun γ=>Gb (dT γ.2)) <|
  .leaf (Sum.inr (Sum.inl 1)) [])
  (.run [bf] (fun γ=>Gb (dF γ.2)) <|
  .bd (Gj3 x51.Class) fun r56=>.run (cs 2 [.op none (.i k3),oc,.op none (.v [jI x51.Class]),.ret none [.any] (.bool r56) [],oc]) (fun γ=>k2 (ir γ.1.1.1.1.2) (k2 (GC (f:=Gj.enc) (z:=2) (fun _=>rfl) γ.1.1.1.1.2) (k2 (GL (f:=Gj.enc) (z:=3) (j:=k3) (a:=2) (n:=1) (fun _=>rfl) γ.1.1.1.1.2 (by decide) rfl) (Gb (Gpp x51.Class r56 γ.2))))) <|
  .sp (r56=true)
  (.run [bf] (fun γ=>Gb ((Gs γ.2):(!r56)=false)) <|
  .sp ((↑k3:Int)>(0:Int))
  (.gd (GP .i64 ((↑k3:Int) - 1)) <| .gd ((0:Int)≤((↑k3:Int) - 1)) <| .bd (l_0[(Int.toNat ((↑k3:Int) - 1))]?) fun x62=>.run [oc,oa,oc,tc,tc,.op (some true) (.i k3),tc,.op (some true) (.v [jI x51.From]),tc,tc,tw,.op (some true) (.i (Int.toNat ((↑k3:Int) - 1))),tc,.op (some true) (.v [jI x62.To]),ta,.op none (.b true)] (fun γ=>k2 (dT γ.1.1.1.2) (k2 (dT γ.1.1.1.2) (k2 (dT γ.1.1.1.2) (k2 (ir γ.1.1.1.1.1.1.1.1.1.2) (k2 (GC (f:=Gj.enc) (z:=2) (fun _=>rfl) γ.1.1.1.1.1.1.1.1.1.2) (k2 (dT γ.1.1.1.2) (k2 (dT γ.1.1.1.2) (k2 (GL (f:=Gj.enc) (z:=3) (j:=k3) (a:=0) (n:=1) (fun _=>rfl) γ.1.1.1.1.1.1.1.1.1.2 (by decide) rfl) (k2 (dT γ.1.1.1.2) (k2 (dT γ.1.1.1.2) (k2 (dT γ.1.1.1.2) (k2 γ.1.1.2 (k2 (dT γ.1.1.1.2) (k2 (ix γ.1.2 γ.2) (k2 (GC (f:=Gj.enc) (z:=2) (fun _=>rfl) γ.2) (k2 (dT γ.1.1.1.2) (k2 (dT γ.1.1.1.2) (k2 (GL (f:=Gj.enc) (z:=3) (j:=(Int.toNat ((↑k3:Int) - 1))) (a:=1) (n:=1) (fun _=>rfl) γ.2 (by decide) rfl) (k2 (dT γ.1.1.1.2) (Gb (dT γ.1.1.1.2))))))))))))))))))))) <|
  .sp (x51.From≤x62.To)
  (.run [bt,oc] (fun γ=>Gb (dT γ.2)) <|
  .leaf (Sum.inr (Sum.inl 15)) [])
  (.run [bf,oc] (fun γ=>Gb (dF γ.2)) <|
  .bd (lp (JU l_0 k3) (0:Nat)) fun qq=>.cs qq (fun o65=>.run [.fcut 0 .ret [(2,jI 9)] [] [] [(0,.any),(3,.any),(4,jI (↑(0:Nat):Int))] []] (fun γ=>k2 (rfl:(jI 0:AV)=jI (↑(0:Nat):Int)) (Gb (Qk l_0 k3 (s:=(0:Nat)) (r:=Sum.inl o65) (eS γ.1.2 γ.2)))) <|
  .leaf (Sum.inr (Sum.inl 9)) [])
  (fun o65=>.run [.fcut 0 (.exit 2) (Ur l_0 k3 (Sum.inr (o65))) [] [] [(0,.any),(3,.any),(4,jI (↑(0:Nat):Int))] []] (fun γ=>k2 (rfl:(jI 0:AV)=jI (↑(0:Nat):Int)) (Gb (Qk l_0 k3 (s:=(0:Nat)) (r:=Sum.inr (o65)) (eS γ.1.2 γ.2)))) <|
  .gd (GP .i64 ((↑k3:Int)+1)) <| .run [oc,ow,oc] (fun γ=>Gb γ.2) <|
  .leaf (Sum.inl (k3+1)) [])))
  (.run [oc,oa,oc,oF,oF,oF,oF,oF,oF,oF,oF,oF,oF,oF,oF,.op none (.b false),bf,oc] (fun γ=>k2 (dF γ.2) (k2 (dF γ.2) (k2 (dF γ.2) (k2 (dF γ.2) (k2 (dF γ.2) (k2 (dF γ.2) (k2 (dF γ.2) (k2 (dF γ.2) (k2 (dF γ.2) (k2 (dF γ.2) (k2 (dF γ.2) (k2 (dF γ.2) (k2 (dF γ.2) (Gb (rfl:false=false))))))))))))))) <|
  .bd (lp (JU l_0 k3) (0:Nat)) fun qq=>.cs qq (fun o81=>.run [.fcut 0 .ret [(2,jI 9)] [] [] [(0,.any),(3,.any),(4,jI (↑(0:Nat):Int))] []] (fun γ=>k2 (rfl:(jI 0:AV)=jI (↑(0:Nat):Int)) (Gb (Qk l_0 k3 (s:=(0:Nat)) (r:=Sum.inl o81) (eS γ.1.2 γ.2)))) <|
  .leaf (Sum.inr (Sum.inl 9)) [])
  (fun o81=>.run [.fcut 0 (.exit 2) (Ur l_0 k3 (Sum.inr (o81))) [] [] [(0,.any),(3,.any),(4,jI (↑(0:Nat):Int))] []] (fun γ=>k2 (rfl:(jI 0:AV)=jI (↑(0:Nat):Int)) (Gb (Qk l_0 k3 (s:=(0:Nat)) (r:=Sum.inr (o81)) (eS γ.1.2 γ.2)))) <|
  .gd (GP .i64 ((↑k3:Int)+1)) <| .run [oc,ow,oc] (fun γ=>Gb γ.2) <|
  .leaf (Sum.inl (k3+1)) [])))
  (.run [bt,oc] (fun γ=>Gb ((Gu (eq_false_of_ne_true γ.2)):(!r56)=true)) <|
  .leaf (Sum.inr (Sum.inl 20)) [])))))
  (.run [bf] (fun γ=>Gb (dF γ.2)) <|
  .leaf (Sum.inr (Sum.inr (()))) [])
def Mg (l_0:(List Gj)):Nat→Option (Nat⊕(Int⊕Unit)):=fun s=>(Xd l_0 s).den
def GhH (l_0:(List Gj)):Nat→PS:=fun s=>(80,[(0,.lst (fl Gj.enc l_0) l_0.length),(3,jI (↑s:Int))],[])
def Gib:(Int⊕Unit)→Hm:=fun q=>match q with | Sum.inl o=>.ret | Sum.inr (o)=>(.exit 0)
def Ghi (l_0:(List Gj)):(Int⊕Unit)→List (Nat×AV):=fun q=>match q with | Sum.inl o=>[(2,jI o)] | Sum.inr (o)=>[]
def GhJ (l_0:(List Gj)):(Int⊕Unit)→List G6:=fun q=>match q with | Sum.inl o=>[] | Sum.inr (o)=>[]
theorem GcY (l_0:(List Gj)) {s:Nat} {r:Int⊕Unit} (h:lp (Mg l_0) s=some r):GI Tryz.prog GT 0 (.loop (GO Tryz.prog 52 [1,1,0,1,0,0])) (GhH l_0 s).st (Gib r) (PS.st (80,Ghi l_0 r,GhJ l_0 r)):=
 GI.lp_ht 0 400 (GhH l_0) Gib (fun q=>(80,Ghi l_0 q,GhJ l_0 q)) (Xd l_0) (by intro k3; kernel_rfl) h
def Giz (l_0:(List Gj)):HT Int True:=.run (cs 3 [oa]) (fun _=>He) <|
  .sp ((↑l_0.length:Int)>(9:Int))
  (.run [bt,oc] (fun γ=>Gb (dT γ.2)) <|
  .leaf 3 [])
  (.run [bf,oc] (fun γ=>Gb (dF γ.2)) <|
  .bd (lp (Mg l_0) (0:Nat)) fun qq=>.cs qq (fun o2=>.run [.fcut 0 .ret [(2,jI o2)] [] [] [(0,.any),(3,jI (↑(0:Nat):Int))] []] (fun γ=>k2 (rfl:(jI 0:AV)=jI (↑(0:Nat):Int)) (Gb (GcY l_0 (s:=(0:Nat)) (r:=Sum.inl o2) (eS γ.1.2 γ.2)))) <|
  .leaf o2 [])
  (fun o2=>.run [.fcut 0 (.exit 0) [] [] [] [(0,.any),(3,jI (↑(0:Nat):Int))] [],oc] (fun γ=>k2 (rfl:(jI 0:AV)=jI (↑(0:Nat):Int)) (Gb (GcY l_0 (s:=(0:Nat)) (r:=Sum.inr (o2)) (eS γ.1.2 γ.2)))) <|
  .leaf 0 []))
def GfP (l_0:(List Gj)):Option Int:=(Giz l_0).den
theorem Zu (l_0:(List Gj)) (r:Int) (h:GfP l_0=some r):G5 Tryz.prog GT 52 [.lst (fl Gj.enc l_0) l_0.length] (jI r) []:=
 G5.of_ht 400 (Giz l_0) (fun (r:Int)=>jI r) (fun (r:Int)=>[]) (by kernel_rfl) h
end
set_option maxHeartbeats 4000000
noncomputable section
theorem GqL (n:Int):GjD n=some (decide (1≤n∧n≤9)):=by
 simp only [GjD,GiP,d1,d2,d3,d4,d5,d6,d7,eN,eM]
 grind
theorem GnF (n:Int):Gj3 n=some (decide (1≤n∧n≤9)):=by
 simp only [Gj3,GiW,d1,d2,d3,d4,d5,d6,d7,eN,eM]
 grind
def GrA (l:List Gj) (n:Nat) (x:Gj):Bool:=(l.take n).any (fun y=>decide (y.Class=x.Class))
def GoY (l:List Gj) (k:Nat) (x:Gj):Option Int:=
 if x.From<1∨x.To<x.From∨x.To>20 then some 1
 else if ¬ (1≤x.Class∧x.Class≤9) then some 20
 else if 0<k∧x.From≤((l[k - 1]?).map (·.To)).getD 0 then some 15
 else if GrA l k x then some 9 else none
theorem Guo (l:List Gj) (hl:Sm l) (n:Nat) (x:Gj) (hx:l[n]?=some x):lp (JU l n) 0=some (HL (if GrA l n x then some () else none)):=by
 have hn:=Hg hx
 unfold GrA
 rw [← Hj (l.take n) 0]
 refine JE (l:=l) (n:=n) (by omega) (fun k y hk hy=>?_) ?_
 ·have i1:GP .i64 ((k:Int)+1):=sm1 hl (by omega)
  clear hl
  simp only [JU,U3,d1,d2,d3,d4,d5,d6,d7,eN,eM,hx,hy,Option.bind_some,i1,if_true]
  clear i1
  grind [KC]
 ·simp only [JU,U3,d1,d2,d3,d4,d5,d6,d7,eN,eM]
  grind
theorem GmU (l:List Gj) (hl:Sm l):GfP l=some (if l.length>9 then 3 else (GK (GoY l) 0 l).getD 0):=by
 simp only [GfP,Giz,d1,d2,d3,d4,d5,d6,d7,eN,eM]
 have key:lp (Mg l) 0=some (HL (GK (GoY l) 0 l)):=by
  refine GQ (fun k x hx=>?_) ?_
  ·have hk:=Hg hx
   have i1:GP .i64 ((k:Int)+1):=sm1 hl (by omega)
   have i2:GP .i64 ((k:Int) - 1):=KV (by omega) (by omega)
   have hd0:=Guo l hl k x hx
   clear hl
   have h1:l[k - 1]?=some l[k - 1]:=List.getElem?_eq_getElem (by omega)
   have h2:((k:Int) - 1).toNat=k - 1:=by omega
   simp only [Mg,Xd,d1,d2,d3,d4,d5,d6,d7,eN,eM,hx,Option.bind_some,GnF,hd0,h2,h1,GoY,i1,i2,if_true]
   clear i1 i2
   cases hd:GrA l k x <;> simp only [hd,HL,d1,d2,d3,d4,d5,d6,d7,eN,eM,if_true,if_false,Bool.false_eq_true] <;> grind [KC]
  ·simp only [Mg,Xd,d1,d2,d3,d4,d5,d6,d7,eN,eM]
   grind
 rw [key]
 cases GK (GoY l) 0 l <;> simp only [HL,Option.bind_some,d1,d2,d3,d4,d5,d6,d7,eN,eM] <;> grind
theorem Gni (l:List Gj) (hl:Sm l):XT l=some (if l.length>9 then 3 else (GK (GoY l) 0 l).getD 0):=by
 simp only [XT,Gcv,d1,d2,d3,d4,d5,d6,d7,eN,eM]
 have key:=Gfj (l:=l) (mk:=fun k b=>(k,b)) (step:=J2 l) (g:=GoY l) (out:=fst) (J:=fun _=>True) (fun k b=>b.length=10∧∀ n:Nat,n<10→b[n]?=some ((l.take k).any fun y=>decide (y.Class=(n:Int))))
  (fun k x b hx hb=>?_) (fun b hb=>?_) (b:=[false,false,false,false,false,false,false,false,false,false]) (by constructor; rfl; intro n hn; match n,hn with | 0,_=>rfl | 1,_=>rfl | 2,_=>rfl | 3,_=>rfl | 4,_=>rfl | 5,_=>rfl | 6,_=>rfl | 7,_=>rfl | 8,_=>rfl | 9,_=>rfl)
 ·by_cases h9:l.length>9
  ·rw [if_pos (by omega),if_pos h9]
  rw [if_neg (by omega),if_neg h9]
  cases he:GK (GoY l) 0 l with
  | some r=>
   obtain ⟨q,h1,h2⟩:=key.1 r he
   rw [h1]; simp only [Option.bind_some,eN,d1,Option.getD_some,h2]
  | none=>
   obtain ⟨q,h1,_⟩:=key.2 he
   rw [h1]; simp only [Option.bind_some,eM,d1,Option.getD_none]
 ·have hk:=Hg hx
  have i1:GP .i64 ((k:Int)+1):=sm1 hl (by omega)
  have h1:l[k - 1]?=some l[k - 1]:=List.getElem?_eq_getElem (by omega)
  have h2:((k:Int) - 1).toNat=k - 1:=by omega
  have hkl:(k:Int)<(l.length:Int):=by omega
  have i2:GP .i64 ((k:Int) - 1):=KV (by omega) (by unfold Sm at hl; omega)
  clear hl
  simp only [J2,Rc,d1,d2,d3,d4,d5,d6,d7,eN,eM,hx,Option.bind_some,GqL,h2,h1,GoY,i1,i2,if_true,hkl]
  clear i1 i2
  by_cases c1:x.From<1∨x.To<x.From∨x.To>20
  ·rw [if_pos c1]
   exact .inl ⟨1,(1,b),rfl,by grind,rfl⟩
  rw [if_neg c1]
  by_cases c2:1≤x.Class∧x.Class≤9
  rotate_left
  ·rw [if_pos c2]
   exact .inl ⟨20,(20,b),rfl,by grind,rfl⟩
  rw [if_neg (fun h=>h c2)]
  have c3:x.Class.toNat<10:=by omega
  have hbn:=hb.2 x.Class.toNat c3
  have c4:((x.Class.toNat:Nat):Int)=x.Class:=by omega
  rw [c4] at hbn
  by_cases c5:0<k∧x.From≤((some l[k - 1]).map (·.To)).getD 0
  ·rw [if_pos c5]
   exact .inl ⟨15,(15,b),rfl,by grind,rfl⟩
  rw [if_neg c5]
  cases hd:GrA l k x with
  | true=>
   unfold GrA at hd
   rw [hd] at hbn
   exact .inl ⟨9,(9,b),rfl,by grind,rfl⟩
  | false=>
   unfold GrA at hd
   rw [hd] at hbn
   refine .inr ⟨rfl,b.set x.Class.toNat true,by grind,by rw [List.length_set]; exact hb.1,fun n hn=>?_⟩
   rw [List.getElem?_set,List.take_add_one,hx]
   simp only [Option.toList,List.any_append,List.any_cons,List.any_nil,Bool.or_false]
   by_cases e:x.Class.toNat=n
   ·subst e
    rw [if_pos rfl,if_pos (by rw [hb.1]; exact c3),c4]
    simp
   ·rw [if_neg e,hb.2 n hn,show decide (x.Class=(n:Int))=false from dF (by omega),Bool.or_false]
 ·refine ⟨b,?_,trivial⟩
  simp only [J2,Rc,d3,d6,d1]
  rw [if_neg (by omega)]
end
set_option maxHeartbeats 4000000
set_option maxRecDepth 100000
noncomputable section
open Go Go.Proofs
def JK (s_0:GJ):Nat→HT (Nat⊕(Int⊕Unit)) True
 | k40=>.run [oa] (fun _=>He) <|
  .sp ((↑k40:Int)<(↑s_0.Up.length:Int))
  (.run (bt::(cs 2 [])) (fun γ=>Gb (dT γ.2)) <|
  .bd (s_0.Down[k40]?) fun x28=>.sp (x28<(0:Int))
  (.run (cs 3 ((.op none (.i k40))::(vI x28)::oa::oc::tc::tc::tc::tc::tc::tc::tc::tc::tc::tc::tc::(.op none (.b true))::(cs 8 [bt,oc]))) (fun γ=>k2 (ir γ.1.2) (k2 (GC (f:=Hc) (z:=0) (fun _=>rfl) γ.1.2) (k2 (HK γ.1.2) (k2 (dT γ.2) (k2 (dT γ.2) (k2 (dT γ.2) (k2 (dT γ.2) (k2 (dT γ.2) (k2 (dT γ.2) (k2 (dT γ.2) (k2 (dT γ.2) (k2 (dT γ.2) (k2 (dT γ.2) (k2 (dT γ.2) (k2 (dT γ.2) (Gb (rfl:true=true))))))))))))))))) <|
  .leaf (Sum.inr (Sum.inl 1)) [0])
  (.bd (s_0.Up[k40]?) fun x31=>.sp (x28≥x31)
  (.run (cs 3 [.op none (.i k40),vI x28,oa,oc,oF,oF,oF,.op (some false) (.i k40),.op (some false) (.v [jI x28]),oF,oF,oF,.op (some false) (.i k40),.op (some false) (.v [jI x31]),oG,.op none (.b false),oc,tc,tc,tc,tc,tc,tc,.op none (.b true),bt,oc]) (fun γ=>k2 (ir γ.1.1.1.2) (k2 (GC (f:=Hc) (z:=0) (fun _=>rfl) γ.1.1.1.2) (k2 (HK γ.1.1.1.2) (k2 (dF γ.1.1.2) (k2 (dF γ.1.1.2) (k2 (dF γ.1.1.2) (k2 (dF γ.1.1.2) (k2 (ir γ.1.1.1.2) (k2 (GC (f:=Hc) (z:=0) (fun _=>rfl) γ.1.1.1.2) (k2 (dF γ.1.1.2) (k2 (HK γ.1.1.1.2) (k2 (dF γ.1.1.2) (k2 (dF γ.1.1.2) (k2 (dF γ.1.1.2) (k2 (dF γ.1.1.2) (k2 (ir γ.1.2) (k2 (GC (f:=Hc) (z:=0) (fun _=>rfl) γ.1.2) (k2 (dF γ.1.1.2) (k2 (HK γ.1.2) (k2 (dF γ.1.1.2) (k2 (dF γ.1.1.2) (k2 (dT γ.2) (k2 (dT γ.2) (k2 (dT γ.2) (k2 (dT γ.2) (k2 (dT γ.2) (k2 (dT γ.2) (k2 (dT γ.2) (Gb (rfl:true=true)))))))))))))))))))))))))))))) <|
  .leaf (Sum.inr (Sum.inl 1)) [0])
  (.run (cs 3 [.op none (.i k40),vI x28,oa,oc,oF,oF,oF,.op (some false) (.i k40),.op (some false) (.v [jI x28]),oF,oF,oF,.op (some false) (.i k40),.op (some false) (.v [jI x31]),oG,.op none (.b false),oc,oF,oF,oF,.op (some false) (.i k40),.op (some false) (.v [jI x31]),oG,.op none (.b false)]) (fun γ=>k2 (ir γ.1.1.1.2) (k2 (GC (f:=Hc) (z:=0) (fun _=>rfl) γ.1.1.1.2) (k2 (HK γ.1.1.1.2) (k2 (dF γ.1.1.2) (k2 (dF γ.1.1.2) (k2 (dF γ.1.1.2) (k2 (dF γ.1.1.2) (k2 (ir γ.1.1.1.2) (k2 (GC (f:=Hc) (z:=0) (fun _=>rfl) γ.1.1.1.2) (k2 (dF γ.1.1.2) (k2 (HK γ.1.1.1.2) (k2 (dF γ.1.1.2) (k2 (dF γ.1.1.2) (k2 (dF γ.1.1.2) (k2 (dF γ.1.1.2) (k2 (ir γ.1.2) (k2 (GC (f:=Hc) (z:=0) (fun _=>rfl) γ.1.2) (k2 (dF γ.1.1.2) (k2 (HK γ.1.2) (k2 (dF γ.1.1.2) (k2 (dF γ.1.1.2) (k2 (dF γ.2) (k2 (dF γ.2) (k2 (dF γ.2) (k2 (dF γ.2) (k2 (ir γ.1.2) (k2 (GC (f:=Hc) (z:=0) (fun _=>rfl) γ.1.2) (k2 (dF γ.2) (k2 (HK γ.1.2) (k2 (dF γ.2) (Gb (dF γ.2)))))))))))))))))))))))))))))))) <|
  .sp (x31>(2147483648:Int))
  (.run [bt,oc] (fun γ=>Gb (dT γ.2)) <|
  .leaf (Sum.inr (Sum.inl 1)) [0])
  (.run [bf] (fun γ=>Gb (dF γ.2)) <|
  .sp ((↑k40:Int)>(0:Int))
  (.gd (GP .i64 ((↑k40:Int) - 1)) <| .gd ((0:Int)≤((↑k40:Int) - 1)) <| .bd (s_0.Up[(Int.toNat ((↑k40:Int) - 1))]?) fun x38=>.sp (x31≤x38)
  (.run [oc,oa,oc,tc,tc,tc,.op (some true) (.i k40),.op (some true) (.v [jI x31]),tc,tc,tc,tw,.op (some true) (.i (Int.toNat ((↑k40:Int) - 1))),.op (some true) (.v [jI x38]),ta,tc,tc,tc,tc,tc,tc,tc,tc,tc,tc,tc,tc,tc,.op (some true) (.b true),.op none (.b true),bt,oc] (fun γ=>k2 (dT γ.1.1.1.1.2) (k2 (dT γ.1.1.1.1.2) (k2 (dT γ.1.1.1.1.2) (k2 (dT γ.1.1.1.1.2) (k2 (ir γ.1.1.1.1.1.1.1.2) (k2 (GC (f:=Hc) (z:=0) (fun _=>rfl) γ.1.1.1.1.1.1.1.2) (k2 (dT γ.1.1.1.1.2) (k2 (HK γ.1.1.1.1.1.1.1.2) (k2 (dT γ.1.1.1.1.2) (k2 (dT γ.1.1.1.1.2) (k2 (dT γ.1.1.1.1.2) (k2 (dT γ.1.1.1.1.2) (k2 γ.1.1.1.2 (k2 (dT γ.1.1.1.1.2) (k2 (ix γ.1.1.2 γ.1.2) (k2 (GC (f:=Hc) (z:=0) (fun _=>rfl) γ.1.2) (k2 (dT γ.1.1.1.1.2) (k2 (HK γ.1.2) (k2 (dT γ.1.1.1.1.2) (k2 (dT γ.1.1.1.1.2) (k2 (dT γ.2) (k2 (dT γ.2) (k2 (dT γ.2) (k2 (dT γ.2) (k2 (dT γ.2) (k2 (dT γ.2) (k2 (dT γ.2) (k2 (dT γ.2) (k2 (dT γ.2) (k2 (dT γ.2) (k2 (dT γ.2) (k2 (dT γ.2) (k2 (dT γ.1.1.1.1.2) (k2 (dT γ.2) (k2 (dT γ.1.1.1.1.2) (Gb (rfl:true=true))))))))))))))))))))))))))))))))))))) <|
  .leaf (Sum.inr (Sum.inl 15)) [0])
  (.bd (s_0.Down[(Int.toNat ((↑k40:Int) - 1))]?) fun x41=>.run [oc,oa,oc,tc,tc,tc,.op (some true) (.i k40),.op (some true) (.v [jI x31]),tc,tc,tc,tw,.op (some true) (.i (Int.toNat ((↑k40:Int) - 1))),.op (some true) (.v [jI x38]),ta,tc,oF,oF,oF,.op (some false) (.i k40),.op (some false) (.v [jI x28]),oF,oF,oF,.op (some false) .w,.op (some false) (.i (Int.toNat ((↑k40:Int) - 1))),.op (some false) (.v [jI x41]),oG,.op (some true) (.b false),.op none (.b true)] (fun γ=>k2 (dT γ.1.1.1.1.1.2) (k2 (dT γ.1.1.1.1.1.2) (k2 (dT γ.1.1.1.1.1.2) (k2 (dT γ.1.1.1.1.1.2) (k2 (ir γ.1.1.1.1.1.1.1.1.2) (k2 (GC (f:=Hc) (z:=0) (fun _=>rfl) γ.1.1.1.1.1.1.1.1.2) (k2 (dT γ.1.1.1.1.1.2) (k2 (HK γ.1.1.1.1.1.1.1.1.2) (k2 (dT γ.1.1.1.1.1.2) (k2 (dT γ.1.1.1.1.1.2) (k2 (dT γ.1.1.1.1.1.2) (k2 (dT γ.1.1.1.1.1.2) (k2 γ.1.1.1.1.2 (k2 (dT γ.1.1.1.1.1.2) (k2 (ix γ.1.1.1.2 γ.1.1.2) (k2 (GC (f:=Hc) (z:=0) (fun _=>rfl) γ.1.1.2) (k2 (dT γ.1.1.1.1.1.2) (k2 (HK γ.1.1.2) (k2 (dT γ.1.1.1.1.1.2) (k2 (dT γ.1.1.1.1.1.2) (k2 (dF γ.1.2) (k2 (dF γ.1.2) (k2 (dF γ.1.2) (k2 (dF γ.1.2) (k2 (ir γ.1.1.1.1.1.1.1.1.1.1.2) (k2 (GC (f:=Hc) (z:=0) (fun _=>rfl) γ.1.1.1.1.1.1.1.1.1.1.2) (k2 (dF γ.1.2) (k2 (HK γ.1.1.1.1.1.1.1.1.1.1.2) (k2 (dF γ.1.2) (k2 (dF γ.1.2) (k2 (dF γ.1.2) (k2 (dF γ.1.2) (k2 γ.1.1.1.1.2 (k2 (dF γ.1.2) (k2 (ix γ.1.1.1.2 γ.2) (k2 (GC (f:=Hc) (z:=0) (fun _=>rfl) γ.2) (k2 (dF γ.1.2) (k2 (HK γ.2) (k2 (dF γ.1.2) (k2 (dT γ.1.1.1.1.1.2) (k2 (dF γ.1.2) (Gb (dT γ.1.1.1.1.1.2))))))))))))))))))))))))))))))))))))))))))) <|
  .sp (x28≤x41)
  (.run [bt,oc] (fun γ=>Gb (dT γ.2)) <|
  .leaf (Sum.inr (Sum.inl 15)) [0])
  (.run [bf] (fun γ=>Gb (dF γ.2)) <|
  .gd (GP .i64 ((↑k40:Int)+1)) <| .run [ow,oc] (fun γ=>Gb γ.2) <|
  .leaf (Sum.inl (k40+1)) [0])))
  (.run (oc::oa::oc::oF::oF::oF::oF::oF::oF::oF::oF::oF::oF::oF::oF::oF::(cs 12 [oF,.op none (.b false),bf])) (fun γ=>k2 (dF γ.2) (k2 (dF γ.2) (k2 (dF γ.2) (k2 (dF γ.2) (k2 (dF γ.2) (k2 (dF γ.2) (k2 (dF γ.2) (k2 (dF γ.2) (k2 (dF γ.2) (k2 (dF γ.2) (k2 (dF γ.2) (k2 (dF γ.2) (k2 (dF γ.2) (k2 (dF γ.2) (k2 (dF γ.2) (Gb (rfl:false=false))))))))))))))))) <|
  .gd (GP .i64 ((↑k40:Int)+1)) <| .run [ow,oc] (fun γ=>Gb γ.2) <|
  .leaf (Sum.inl (k40+1)) [0])))))
  (.run [bf] (fun γ=>Gb (dF γ.2)) <|
  .leaf (Sum.inr (Sum.inr (()))) [0])
def Hv (s_0:GJ):Nat→Option (Nat⊕(Int⊕Unit)):=fun s=>(JK s_0 s).den
def XQ (s_0:GJ):Nat→PS:=fun s=>(115,[(1,.ptr 0 0),(39,jI (↑s_0.Up.length:Int)),(40,jI (↑s:Int))],[(bT (GJ.enc s_0) 48)])
def Yi:(Int⊕Unit)→Hm:=fun q=>match q with | Sum.inl o=>.ret | Sum.inr (o)=>(.exit 0)
def X6 (s_0:GJ):(Int⊕Unit)→List (Nat×AV):=fun q=>match q with | Sum.inl o=>[(2,jI o)] | Sum.inr (o)=>[(1,.ptr 0 0)]
def Yc (s_0:GJ):(Int⊕Unit)→List G6:=fun q=>match q with | Sum.inl o=>[(bT (GJ.enc s_0) 48)] | Sum.inr (o)=>[(bT (GJ.enc s_0) 48)]
theorem Ug (s_0:GJ) {s:Nat} {r:Int⊕Unit} (h:lp (Hv s_0) s=some r):GI Tryz.prog GT 1 (.loop (GO Tryz.prog 91 [1,1,1,0,1,0,0])) (XQ s_0 s).st (Yi r) (PS.st (115,X6 s_0 r,Yc s_0 r)):=
 GI.lp_ht 1 400 (XQ s_0) Yi (fun q=>(115,X6 s_0 q,Yc s_0 q)) (JK s_0) (by intro k40; kernel_rfl) h
def Jv (s_0:GJ):Nat→HT (Nat⊕(Unit⊕Unit)) True
 | k104=>.run [oa] (fun _=>He) <|
  .sp ((↑k104:Int)<(↑s_0.Parts.length:Int))
  (.run [bt] (fun γ=>Gb (dT γ.2)) <|
  .bd (s_0.Parts[k104]?) fun x54=>.run [.op none (.i k104),vI x54,oc] (fun γ=>k2 (ir γ.2) (k2 (GC (f:=Hc) (z:=0) (fun _=>rfl) γ.2) (Gb (HK γ.2)))) <|
  .sp (x54<(0:Int))
  (.run (oc::oa::oc::tc::(cs 2 [bt,oc])) (fun γ=>k2 (dT γ.2) (Gb (rfl:true=true))) <|
  .leaf (Sum.inr (Sum.inl ())) [])
  (.run [oc,oa,oc,oF,oa,oc] (fun γ=>Gb (dF γ.2)) <|
  .sp (x54>(10000:Int))
  (.run [bt,oc] (fun γ=>Gb (dT γ.2)) <|
  .leaf (Sum.inr (Sum.inl ())) [])
  (.run [bf] (fun γ=>Gb (dF γ.2)) <|
  .gd (GP .i64 ((↑k104:Int)+1)) <| .run [ow,oc] (fun γ=>Gb γ.2) <|
  .leaf (Sum.inl (k104+1)) [])))
  (.run [bf] (fun γ=>Gb (dF γ.2)) <|
  .leaf (Sum.inr (Sum.inr (()))) [])
def Hq (s_0:GJ):Nat→Option (Nat⊕(Unit⊕Unit)):=fun s=>(Jv s_0 s).den
def Vz (s_0:GJ):Nat→PS:=fun s=>(115,[(102,.lst (fl Hc s_0.Parts) s_0.Parts.length),(103,jI (↑s_0.Parts.length:Int)),(104,jI (↑s:Int))],[])
def VF:(Unit⊕Unit)→Hm:=fun q=>match q with | Sum.inl o=>.ret | Sum.inr (o)=>(.exit 2)
def VD (s_0:GJ):(Unit⊕Unit)→List (Nat×AV):=fun q=>match q with | Sum.inl o=>[(2,jI 1)] | Sum.inr (o)=>[]
def Vx (s_0:GJ):(Unit⊕Unit)→List G6:=fun q=>match q with | Sum.inl o=>[] | Sum.inr (o)=>[]
theorem RA (s_0:GJ) {s:Nat} {r:Unit⊕Unit} (h:lp (Hq s_0) s=some r):GI Tryz.prog GT 0 (.loop (GO Tryz.prog 91 [1,1,1,1,0,1,0,0])) (Vz s_0 s).st (VF r) (PS.st (115,VD s_0 r,Vx s_0 r)):=
 GI.lp_ht 0 400 (Vz s_0) VF (fun q=>(115,VD s_0 q,Vx s_0 q)) (Jv s_0) (by intro k104; kernel_rfl) h
def Qg (s_0:GJ):HT Int True:=.run (cs 5 [oa]) (fun _=>He) <|
  .sp ((↑s_0.Up.length:Int)>(8:Int))
  (.run [bt,oc] (fun γ=>Gb (dT γ.2)) <|
  .leaf 3 [])
  (.run [bf] (fun γ=>Gb (dF γ.2)) <|
  .sp (s_0.Period<(1:Int))
  (.run (cs 2 (oa::oc::tc::(cs 22 [bt,oc]))) (fun γ=>k2 (dT γ.2) (Gb (rfl:true=true))) <|
  .leaf 1 [])
  (.sp (s_0.Period>(86400:Int))
  (.run (cs 2 (oa::oc::oF::oc::oa::(cs 2 (tc::(cs 17 [bt,oc]))))) (fun γ=>k2 (dF γ.1.2) (k2 (dT γ.2) (Gb (rfl:true=true)))) <|
  .leaf 1 [])
  (.sp ((↑s_0.Down.length:Int)=(↑s_0.Up.length:Int))
  (.gd (GP .i64 ((↑s_0.Up.length:Int)+1)) <| .run (cs 2 (oa::oc::oF::oc::oa::(cs 2 (oF::(cs 5 (oa::(cs 2 (oF::(cs 5 [ow,oa,oc]))))))))) (fun γ=>k2 (dF γ.1.1.1.2) (k2 (dF γ.1.1.2) (k2 (Gs (Gp γ.1.2)) (Gb γ.2)))) <|
  .sp ((↑s_0.Parts.length:Int)=((↑s_0.Up.length:Int)+1))
  (.run (bf::(cs 4 [])) (fun γ=>Gb (Gs (Gp γ.2))) <|
  .bd (lp (Hv s_0) (0:Nat)) fun qq=>.cs qq (fun o7=>.run [.fcut 1 .ret [(2,jI o7)] [(bT (GJ.enc s_0) 48)] [0] [(1,.any),(39,.any),(40,jI (↑(0:Nat):Int))] [bS]] (fun γ=>k2 (rfl:(jI 0:AV)=jI (↑(0:Nat):Int)) (Gb (Ug s_0 (s:=(0:Nat)) (r:=Sum.inl o7) (eS γ.1.2 γ.2)))) <|
  .leaf o7 [])
  (fun o7=>.run ((.fcut 1 (.exit 0) [(1,.ptr 0 0)] [(bT (GJ.enc s_0) 48)] [0] [(1,.any),(39,.any),(40,jI (↑(0:Nat):Int))] [bS])::(cs 4 [])) (fun γ=>k2 (rfl:(jI 0:AV)=jI (↑(0:Nat):Int)) (Gb (Ug s_0 (s:=(0:Nat)) (r:=Sum.inr (o7)) (eS γ.1.2 γ.2)))) <|
  .bd (lp (Hq s_0) (0:Nat)) fun qq=>.cs qq (fun o46=>.run [.fcut 0 .ret [(2,jI 1)] [] [] [(102,.any),(103,.any),(104,jI (↑(0:Nat):Int))] []] (fun γ=>k2 (rfl:(jI 0:AV)=jI (↑(0:Nat):Int)) (Gb (RA s_0 (s:=(0:Nat)) (r:=Sum.inl o46) (eS γ.1.2 γ.2)))) <|
  .leaf 1 [])
  (fun o46=>.run [.fcut 0 (.exit 2) [] [] [] [(102,.any),(103,.any),(104,jI (↑(0:Nat):Int))] [],oc] (fun γ=>k2 (rfl:(jI 0:AV)=jI (↑(0:Nat):Int)) (Gb (RA s_0 (s:=(0:Nat)) (r:=Sum.inr (o46)) (eS γ.1.2 γ.2)))) <|
  .leaf 0 [])))
  (.run [bt,oc] (fun γ=>Gb (Gu (Gw γ.2))) <|
  .leaf 1 []))
  (.run (cs 2 (oa::oc::oF::oc::oa::(cs 2 (oF::(cs 5 (oa::(cs 2 (tc::(cs 8 [bt,oc]))))))))) (fun γ=>k2 (dF γ.1.1.2) (k2 (dF γ.1.2) (k2 (Gu (Gw γ.2)) (Gb (rfl:true=true))))) <|
  .leaf 1 []))))
def MZ (s_0:GJ):Option Int:=(Qg s_0).den
theorem YO (s_0:GJ) (r:Int) (h:MZ s_0=some r):G5 Tryz.prog GT 91 [.agg (GJ.enc s_0)] (jI r) []:=
 G5.of_ht 400 (Qg s_0) (fun (r:Int)=>jI r) (fun (r:Int)=>[]) (by kernel_rfl) h
def GcC (s_0:GJ):Nat→HT (Nat⊕(Int⊕Unit)) True
 | k3=>.run (cs 4 [oa]) (fun _=>He) <|
  .sp ((↑k3:Int)<(↑s_0.Up.length:Int))
  (.run [bt] (fun γ=>Gb (dT γ.2)) <|
  .bd (s_0.Down[k3]?) fun x28=>.sp (x28<(0:Int))
  (.run (cs 3 ((.op none (.i k3))::(vI x28)::oa::oc::tc::tc::tc::tc::tc::tc::tc::tc::tc::tc::tc::(.op none (.b true))::(cs 8 [bt,oc]))) (fun γ=>k2 (ir γ.1.2) (k2 (GC (f:=Hc) (z:=0) (fun _=>rfl) γ.1.2) (k2 (HK γ.1.2) (k2 (dT γ.2) (k2 (dT γ.2) (k2 (dT γ.2) (k2 (dT γ.2) (k2 (dT γ.2) (k2 (dT γ.2) (k2 (dT γ.2) (k2 (dT γ.2) (k2 (dT γ.2) (k2 (dT γ.2) (k2 (dT γ.2) (k2 (dT γ.2) (Gb (rfl:true=true))))))))))))))))) <|
  .leaf (Sum.inr (Sum.inl 1)) [0])
  (.bd (s_0.Up[k3]?) fun x31=>.sp (x28≥x31)
  (.run (cs 3 [.op none (.i k3),vI x28,oa,oc,oF,oF,oF,.op (some false) (.i k3),.op (some false) (.v [jI x28]),oF,oF,oF,.op (some false) (.i k3),.op (some false) (.v [jI x31]),oG,.op none (.b false),oc,tc,tc,tc,tc,tc,tc,.op none (.b true),bt,oc]) (fun γ=>k2 (ir γ.1.1.1.2) (k2 (GC (f:=Hc) (z:=0) (fun _=>rfl) γ.1.1.1.2) (k2 (HK γ.1.1.1.2) (k2 (dF γ.1.1.2) (k2 (dF γ.1.1.2) (k2 (dF γ.1.1.2) (k2 (dF γ.1.1.2) (k2 (ir γ.1.1.1.2) (k2 (GC (f:=Hc) (z:=0) (fun _=>rfl) γ.1.1.1.2) (k2 (dF γ.1.1.2) (k2 (HK γ.1.1.1.2) (k2 (dF γ.1.1.2) (k2 (dF γ.1.1.2) (k2 (dF γ.1.1.2) (k2 (dF γ.1.1.2) (k2 (ir γ.1.2) (k2 (GC (f:=Hc) (z:=0) (fun _=>rfl) γ.1.2) (k2 (dF γ.1.1.2) (k2 (HK γ.1.2) (k2 (dF γ.1.1.2) (k2 (dF γ.1.1.2) (k2 (dT γ.2) (k2 (dT γ.2) (k2 (dT γ.2) (k2 (dT γ.2) (k2 (dT γ.2) (k2 (dT γ.2) (k2 (dT γ.2) (Gb (rfl:true=true)))))))))))))))))))))))))))))) <|
  .leaf (Sum.inr (Sum.inl 1)) [0])
  (.run (cs 3 [.op none (.i k3),vI x28,oa,oc,oF,oF,oF,.op (some false) (.i k3),.op (some false) (.v [jI x28]),oF,oF,oF,.op (some false) (.i k3),.op (some false) (.v [jI x31]),oG,.op none (.b false),oc,oF,oF,oF,.op (some false) (.i k3),.op (some false) (.v [jI x31]),oG,.op none (.b false)]) (fun γ=>k2 (ir γ.1.1.1.2) (k2 (GC (f:=Hc) (z:=0) (fun _=>rfl) γ.1.1.1.2) (k2 (HK γ.1.1.1.2) (k2 (dF γ.1.1.2) (k2 (dF γ.1.1.2) (k2 (dF γ.1.1.2) (k2 (dF γ.1.1.2) (k2 (ir γ.1.1.1.2) (k2 (GC (f:=Hc) (z:=0) (fun _=>rfl) γ.1.1.1.2) (k2 (dF γ.1.1.2) (k2 (HK γ.1.1.1.2) (k2 (dF γ.1.1.2) (k2 (dF γ.1.1.2) (k2 (dF γ.1.1.2) (k2 (dF γ.1.1.2) (k2 (ir γ.1.2) (k2 (GC (f:=Hc) (z:=0) (fun _=>rfl) γ.1.2) (k2 (dF γ.1.1.2) (k2 (HK γ.1.2) (k2 (dF γ.1.1.2) (k2 (dF γ.1.1.2) (k2 (dF γ.2) (k2 (dF γ.2) (k2 (dF γ.2) (k2 (dF γ.2) (k2 (ir γ.1.2) (k2 (GC (f:=Hc) (z:=0) (fun _=>rfl) γ.1.2) (k2 (dF γ.2) (k2 (HK γ.1.2) (k2 (dF γ.2) (Gb (dF γ.2)))))))))))))))))))))))))))))))) <|
  .sp (x31>(2147483648:Int))
  (.run [bt,oc] (fun γ=>Gb (dT γ.2)) <|
  .leaf (Sum.inr (Sum.inl 1)) [0])
  (.run [bf] (fun γ=>Gb (dF γ.2)) <|
  .sp ((↑k3:Int)>(0:Int))
  (.gd (GP .i64 ((↑k3:Int) - 1)) <| .gd ((0:Int)≤((↑k3:Int) - 1)) <| .bd (s_0.Up[(Int.toNat ((↑k3:Int) - 1))]?) fun x38=>.sp (x31≤x38)
  (.run [oc,oa,oc,tc,tc,tc,.op (some true) (.i k3),.op (some true) (.v [jI x31]),tc,tc,tc,tw,.op (some true) (.i (Int.toNat ((↑k3:Int) - 1))),.op (some true) (.v [jI x38]),ta,tc,tc,tc,tc,tc,tc,tc,tc,tc,tc,tc,tc,tc,.op (some true) (.b true),.op none (.b true),bt,oc] (fun γ=>k2 (dT γ.1.1.1.1.2) (k2 (dT γ.1.1.1.1.2) (k2 (dT γ.1.1.1.1.2) (k2 (dT γ.1.1.1.1.2) (k2 (ir γ.1.1.1.1.1.1.1.2) (k2 (GC (f:=Hc) (z:=0) (fun _=>rfl) γ.1.1.1.1.1.1.1.2) (k2 (dT γ.1.1.1.1.2) (k2 (HK γ.1.1.1.1.1.1.1.2) (k2 (dT γ.1.1.1.1.2) (k2 (dT γ.1.1.1.1.2) (k2 (dT γ.1.1.1.1.2) (k2 (dT γ.1.1.1.1.2) (k2 γ.1.1.1.2 (k2 (dT γ.1.1.1.1.2) (k2 (ix γ.1.1.2 γ.1.2) (k2 (GC (f:=Hc) (z:=0) (fun _=>rfl) γ.1.2) (k2 (dT γ.1.1.1.1.2) (k2 (HK γ.1.2) (k2 (dT γ.1.1.1.1.2) (k2 (dT γ.1.1.1.1.2) (k2 (dT γ.2) (k2 (dT γ.2) (k2 (dT γ.2) (k2 (dT γ.2) (k2 (dT γ.2) (k2 (dT γ.2) (k2 (dT γ.2) (k2 (dT γ.2) (k2 (dT γ.2) (k2 (dT γ.2) (k2 (dT γ.2) (k2 (dT γ.2) (k2 (dT γ.1.1.1.1.2) (k2 (dT γ.2) (k2 (dT γ.1.1.1.1.2) (Gb (rfl:true=true))))))))))))))))))))))))))))))))))))) <|
  .leaf (Sum.inr (Sum.inl 15)) [0])
  (.bd (s_0.Down[(Int.toNat ((↑k3:Int) - 1))]?) fun x41=>.run [oc,oa,oc,tc,tc,tc,.op (some true) (.i k3),.op (some true) (.v [jI x31]),tc,tc,tc,tw,.op (some true) (.i (Int.toNat ((↑k3:Int) - 1))),.op (some true) (.v [jI x38]),ta,tc,oF,oF,oF,.op (some false) (.i k3),.op (some false) (.v [jI x28]),oF,oF,oF,.op (some false) .w,.op (some false) (.i (Int.toNat ((↑k3:Int) - 1))),.op (some false) (.v [jI x41]),oG,.op (some true) (.b false),.op none (.b true)] (fun γ=>k2 (dT γ.1.1.1.1.1.2) (k2 (dT γ.1.1.1.1.1.2) (k2 (dT γ.1.1.1.1.1.2) (k2 (dT γ.1.1.1.1.1.2) (k2 (ir γ.1.1.1.1.1.1.1.1.2) (k2 (GC (f:=Hc) (z:=0) (fun _=>rfl) γ.1.1.1.1.1.1.1.1.2) (k2 (dT γ.1.1.1.1.1.2) (k2 (HK γ.1.1.1.1.1.1.1.1.2) (k2 (dT γ.1.1.1.1.1.2) (k2 (dT γ.1.1.1.1.1.2) (k2 (dT γ.1.1.1.1.1.2) (k2 (dT γ.1.1.1.1.1.2) (k2 γ.1.1.1.1.2 (k2 (dT γ.1.1.1.1.1.2) (k2 (ix γ.1.1.1.2 γ.1.1.2) (k2 (GC (f:=Hc) (z:=0) (fun _=>rfl) γ.1.1.2) (k2 (dT γ.1.1.1.1.1.2) (k2 (HK γ.1.1.2) (k2 (dT γ.1.1.1.1.1.2) (k2 (dT γ.1.1.1.1.1.2) (k2 (dF γ.1.2) (k2 (dF γ.1.2) (k2 (dF γ.1.2) (k2 (dF γ.1.2) (k2 (ir γ.1.1.1.1.1.1.1.1.1.1.2) (k2 (GC (f:=Hc) (z:=0) (fun _=>rfl) γ.1.1.1.1.1.1.1.1.1.1.2) (k2 (dF γ.1.2) (k2 (HK γ.1.1.1.1.1.1.1.1.1.1.2) (k2 (dF γ.1.2) (k2 (dF γ.1.2) (k2 (dF γ.1.2) (k2 (dF γ.1.2) (k2 γ.1.1.1.1.2 (k2 (dF γ.1.2) (k2 (ix γ.1.1.1.2 γ.2) (k2 (GC (f:=Hc) (z:=0) (fun _=>rfl) γ.2) (k2 (dF γ.1.2) (k2 (HK γ.2) (k2 (dF γ.1.2) (k2 (dT γ.1.1.1.1.1.2) (k2 (dF γ.1.2) (Gb (dT γ.1.1.1.1.1.2))))))))))))))))))))))))))))))))))))))))))) <|
  .sp (x28≤x41)
  (.run [bt,oc] (fun γ=>Gb (dT γ.2)) <|
  .leaf (Sum.inr (Sum.inl 15)) [0])
  (.run [bf] (fun γ=>Gb (dF γ.2)) <|
  .gd (GP .i64 ((↑k3:Int)+1)) <| .run [oc,ow,oc] (fun γ=>Gb γ.2) <|
  .leaf (Sum.inl (k3+1)) [0])))
  (.run (oc::oa::oc::oF::oF::oF::oF::oF::oF::oF::oF::oF::oF::oF::oF::oF::(cs 12 [oF,.op none (.b false),bf])) (fun γ=>k2 (dF γ.2) (k2 (dF γ.2) (k2 (dF γ.2) (k2 (dF γ.2) (k2 (dF γ.2) (k2 (dF γ.2) (k2 (dF γ.2) (k2 (dF γ.2) (k2 (dF γ.2) (k2 (dF γ.2) (k2 (dF γ.2) (k2 (dF γ.2) (k2 (dF γ.2) (k2 (dF γ.2) (k2 (dF γ.2) (Gb (rfl:false=false))))))))))))))))) <|
  .gd (GP .i64 ((↑k3:Int)+1)) <| .run [oc,ow,oc] (fun γ=>Gb γ.2) <|
  .leaf (Sum.inl (k3+1)) [0])))))
  (.run [bf] (fun γ=>Gb (dF γ.2)) <|
  .leaf (Sum.inr (Sum.inr (()))) [0])
def Rd (s_0:GJ):Nat→Option (Nat⊕(Int⊕Unit)):=fun s=>(GcC s_0 s).den
def GhP (s_0:GJ):Nat→PS:=fun s=>(121,[(1,.ptr 0 0),(3,jI (↑s:Int))],[(bT (GJ.enc s_0) 48)])
def Ghk:(Int⊕Unit)→Hm:=fun q=>match q with | Sum.inl o=>.ret | Sum.inr (o)=>(.exit 0)
def Gh5 (s_0:GJ):(Int⊕Unit)→List (Nat×AV):=fun q=>match q with | Sum.inl o=>[(2,jI o)] | Sum.inr (o)=>[(1,.ptr 0 0)]
def Ghm (s_0:GJ):(Int⊕Unit)→List G6:=fun q=>match q with | Sum.inl o=>[(bT (GJ.enc s_0) 48)] | Sum.inr (o)=>[(bT (GJ.enc s_0) 48)]
theorem Gdh (s_0:GJ) {s:Nat} {r:Int⊕Unit} (h:lp (Rd s_0) s=some r):GI Tryz.prog GT 1 (.loop (GO Tryz.prog 56 [1,1,1,0,1,0,0])) (GhP s_0 s).st (Ghk r) (PS.st (121,Gh5 s_0 r,Ghm s_0 r)):=
 GI.lp_ht 1 400 (GhP s_0) Ghk (fun q=>(121,Gh5 s_0 q,Ghm s_0 q)) (GcC s_0) (by intro k3; kernel_rfl) h
def GaD (s_0:GJ):Nat→HT (Nat⊕(Unit⊕Unit)) True
 | k4=>.run (cs 4 [oa]) (fun _=>He) <|
  .sp ((↑k4:Int)<(↑s_0.Parts.length:Int))
  (.run [bt] (fun γ=>Gb (dT γ.2)) <|
  .bd (s_0.Parts[k4]?) fun x54=>.sp (x54<(0:Int))
  (.run (cs 3 ((.op none (.i k4))::(vI x54)::oa::oc::tc::(cs 6 [bt,oc]))) (fun γ=>k2 (ir γ.1.2) (k2 (GC (f:=Hc) (z:=0) (fun _=>rfl) γ.1.2) (k2 (HK γ.1.2) (k2 (dT γ.2) (Gb (rfl:true=true)))))) <|
  .leaf (Sum.inr (Sum.inl ())) [0])
  (.run (cs 3 ((.op none (.i k4))::(vI x54)::oa::oc::oF::(cs 2 [.op none (.i k4),vI x54,oa,oc]))) (fun γ=>k2 (ir γ.1.2) (k2 (GC (f:=Hc) (z:=0) (fun _=>rfl) γ.1.2) (k2 (HK γ.1.2) (k2 (dF γ.2) (k2 (ir γ.1.2) (k2 (GC (f:=Hc) (z:=0) (fun _=>rfl) γ.1.2) (Gb (HK γ.1.2)))))))) <|
  .sp (x54>(10000:Int))
  (.run [bt,oc] (fun γ=>Gb (dT γ.2)) <|
  .leaf (Sum.inr (Sum.inl ())) [0])
  (.run [bf] (fun γ=>Gb (dF γ.2)) <|
  .gd (GP .i64 ((↑k4:Int)+1)) <| .run [oc,ow,oc] (fun γ=>Gb γ.2) <|
  .leaf (Sum.inl (k4+1)) [0])))
  (.run [bf] (fun γ=>Gb (dF γ.2)) <|
  .leaf (Sum.inr (Sum.inr (()))) [0])
def Qq (s_0:GJ):Nat→Option (Nat⊕(Unit⊕Unit)):=fun s=>(GaD s_0 s).den
def Ggm (s_0:GJ):Nat→PS:=fun s=>(121,[(1,.ptr 0 0),(4,jI (↑s:Int))],[(bT (GJ.enc s_0) 48)])
def Gfy:(Unit⊕Unit)→Hm:=fun q=>match q with | Sum.inl o=>.ret | Sum.inr (o)=>(.exit 2)
def GfX (s_0:GJ):(Unit⊕Unit)→List (Nat×AV):=fun q=>match q with | Sum.inl o=>[(2,jI 1)] | Sum.inr (o)=>[]
def Ge1 (s_0:GJ):(Unit⊕Unit)→List G6:=fun q=>match q with | Sum.inl o=>[(bT (GJ.enc s_0) 48)] | Sum.inr (o)=>[(bT (GJ.enc s_0) 48)]
theorem Gbt (s_0:GJ) {s:Nat} {r:Unit⊕Unit} (h:lp (Qq s_0) s=some r):GI Tryz.prog GT 1 (.loop (GO Tryz.prog 56 [1,1,1,1,0,1,0,0])) (Ggm s_0 s).st (Gfy r) (PS.st (121,GfX s_0 r,Ge1 s_0 r)):=
 GI.lp_ht 1 400 (Ggm s_0) Gfy (fun q=>(121,GfX s_0 q,Ge1 s_0 q)) (GaD s_0) (by intro k4; kernel_rfl) h
def Gi3 (s_0:GJ):HT Int True:=.run (cs 5 [oa]) (fun _=>He) <|
  .sp ((↑s_0.Up.length:Int)>(8:Int))
  (.run [bt,oc] (fun γ=>Gb (dT γ.2)) <|
  .leaf 3 [])
  (.run [bf] (fun γ=>Gb (dF γ.2)) <|
  .sp (s_0.Period<(1:Int))
  (.run (cs 2 (oa::oc::tc::(cs 22 [bt,oc]))) (fun γ=>k2 (dT γ.2) (Gb (rfl:true=true))) <|
  .leaf 1 [])
  (.sp (s_0.Period>(86400:Int))
  (.run (cs 2 (oa::oc::oF::oc::oa::(cs 2 (tc::(cs 17 [bt,oc]))))) (fun γ=>k2 (dF γ.1.2) (k2 (dT γ.2) (Gb (rfl:true=true)))) <|
  .leaf 1 [])
  (.sp ((↑s_0.Down.length:Int)=(↑s_0.Up.length:Int))
  (.gd (GP .i64 ((↑s_0.Up.length:Int)+1)) <| .run (cs 2 (oa::oc::oF::oc::oa::(cs 2 (oF::(cs 5 (oa::(cs 2 (oF::(cs 5 [ow,oa,oc]))))))))) (fun γ=>k2 (dF γ.1.1.1.2) (k2 (dF γ.1.1.2) (k2 (Gs (Gp γ.1.2)) (Gb γ.2)))) <|
  .sp ((↑s_0.Parts.length:Int)=((↑s_0.Up.length:Int)+1))
  (.run [bf,oc] (fun γ=>Gb (Gs (Gp γ.2))) <|
  .bd (lp (Rd s_0) (0:Nat)) fun qq=>.cs qq (fun o7=>.run [.fcut 1 .ret [(2,jI o7)] [(bT (GJ.enc s_0) 48)] [0] [(1,.any),(3,jI (↑(0:Nat):Int))] [bS]] (fun γ=>k2 (rfl:(jI 0:AV)=jI (↑(0:Nat):Int)) (Gb (Gdh s_0 (s:=(0:Nat)) (r:=Sum.inl o7) (eS γ.1.2 γ.2)))) <|
  .leaf o7 [])
  (fun o7=>.run [.fcut 1 (.exit 0) [(1,.ptr 0 0)] [(bT (GJ.enc s_0) 48)] [0] [(1,.any),(3,jI (↑(0:Nat):Int))] [bS],oc] (fun γ=>k2 (rfl:(jI 0:AV)=jI (↑(0:Nat):Int)) (Gb (Gdh s_0 (s:=(0:Nat)) (r:=Sum.inr (o7)) (eS γ.1.2 γ.2)))) <|
  .bd (lp (Qq s_0) (0:Nat)) fun qq=>.cs qq (fun o46=>.run [.fcut 1 .ret [(2,jI 1)] [(bT (GJ.enc s_0) 48)] [0] [(1,.any),(4,jI (↑(0:Nat):Int))] [bS]] (fun γ=>k2 (rfl:(jI 0:AV)=jI (↑(0:Nat):Int)) (Gb (Gbt s_0 (s:=(0:Nat)) (r:=Sum.inl o46) (eS γ.1.2 γ.2)))) <|
  .leaf 1 [])
  (fun o46=>.run [.fcut 1 (.exit 2) [] [(bT (GJ.enc s_0) 48)] [0] [(1,.any),(4,jI (↑(0:Nat):Int))] [bS],oc] (fun γ=>k2 (rfl:(jI 0:AV)=jI (↑(0:Nat):Int)) (Gb (Gbt s_0 (s:=(0:Nat)) (r:=Sum.inr (o46)) (eS γ.1.2 γ.2)))) <|
  .leaf 0 [])))
  (.run [bt,oc] (fun γ=>Gb (Gu (Gw γ.2))) <|
  .leaf 1 []))
  (.run (cs 2 (oa::oc::oF::oc::oa::(cs 2 (oF::(cs 5 (oa::(cs 2 (tc::(cs 8 [bt,oc]))))))))) (fun γ=>k2 (dF γ.1.1.2) (k2 (dF γ.1.2) (k2 (Gu (Gw γ.2)) (Gb (rfl:true=true))))) <|
  .leaf 1 []))))
def Z5 (s_0:GJ):Option Int:=(Gi3 s_0).den
theorem Zf (s_0:GJ) (r:Int) (h:Z5 s_0=some r):G5 Tryz.prog GT 56 [.agg (GJ.enc s_0)] (jI r) []:=
 G5.of_ht 400 (Gi3 s_0) (fun (r:Int)=>jI r) (fun (r:Int)=>[]) (by kernel_rfl) h
end
set_option maxHeartbeats 4000000
noncomputable section
def GvI (s:GJ) (k:Nat) (u:Int):Option Int:=
 if (s.Down[k]?).getD 0<0∨u≤(s.Down[k]?).getD 0∨u>2147483648 then some 1
 else if 0<k∧(u≤(s.Up[k - 1]?).getD 0∨(s.Down[k]?).getD 0≤(s.Down[k - 1]?).getD 0) then some 15 else none
def Gq1 (s:GJ):Int:=
 if s.Up.length>8 then 3 else if s.Period<1∨s.Period>86400∨s.Down.length≠s.Up.length∨s.Parts.length≠s.Up.length+1 then 1
 else ((GK (GvI s) 0 s.Up).or (if s.Parts.any (fun x=>decide (x<0∨x>10000)) then some 1 else none)).getD 0
theorem GaH (s:GJ):MZ s=some (Gq1 s):=by
 simp only [MZ,Qg,d1,d2,d3,d4,d5,d6,d7]
 unfold Gq1
 by_cases h8:s.Up.length>8
 ·rw [if_pos (by omega),if_pos h8]
 rw [if_neg (by omega),if_neg h8]
 have i0:GP .i64 ((s.Up.length:Int)+1):=KV (by omega) (by omega)
 by_cases hd:s.Down.length=s.Up.length∧s.Parts.length=s.Up.length+1
 rotate_left
 ·simp only [i0,if_true]; grind
 have hu:Sm s.Up:=by show _≤_; omega
 have hp:Sm s.Parts:=by show _≤_; omega
 have k1:lp (Hv s) 0=some (HL (GK (GvI s) 0 s.Up)):=by
  refine GQ (fun k x hx=>?_) ?_
  ·obtain ⟨hk,i1,i2,hkl,h1,h2⟩:=rd hu hx
   have h3:s.Down[k]?=some s.Down[k]:=List.getElem?_eq_getElem (by omega)
   have h4:s.Down[k - 1]?=some s.Down[k - 1]:=List.getElem?_eq_getElem (by omega)
   simp only [Hv,JK,d1,d2,d3,d4,d5,d6,d7,hx,Option.bind_some,h2,h1,h3,h4,i1,i2,if_true,hkl,GvI,Option.getD_some]
   clear i1 i2 hu hp i0
   grind [KC]
  ·simp only [Hv,JK,d3,d6,d1]
   rw [if_neg (by omega)]
 have k2:lp (Hq s) 0=some (HL (if s.Parts.any (fun x=>decide (x<0∨x>10000)) then some () else none)):=by
  rw [← Hj s.Parts 0]
  refine GQ (fun k x hx=>?_) ?_
  ·obtain ⟨hk,i1,i2,hkl,h1,h2⟩:=rd hp hx
   simp only [Hq,Jv,d1,d2,d3,d4,d5,d6,d7,hx,Option.bind_some,i1,if_true,hkl]
   clear i1 i2 hu hp i0
   grind [KC]
  ·simp only [Hq,Jv,d3,d6,d1]
   rw [if_neg (by omega)]
 simp only [k1,k2,i0,if_true,Option.bind_some]
 clear i0 hu hp k1 k2
 cases GK (GvI s) 0 s.Up <;> rcases Hf (s.Parts.any fun x=>decide (x<0∨x>10000)) with hh | hh <;> simp only [hh,HL,eN,eM,Option.bind_some,if_true,if_false,Bool.false_eq_true,Option.some_or,Option.none_or,Option.getD_some,Option.getD_none] <;> grind
theorem GnP (s:GJ):Z5 s=some (Gq1 s):=by
 rw [← GaH]
 simp only [MZ,Qg,Z5,Gi3,d1,d2,d3,d4,d5,d6,d7]
 have e1:Rd s=Hv s:=by
  funext k
  simp only [Hv,JK,Rd,GcC,d1,d2,d3,d4,d5,d6,d7]
 have e2:Qq s=Hq s:=by
  funext k
  simp only [Hq,Jv,Qq,GaD,d1,d2,d3,d4,d5,d6,d7]
 rw [e1,e2]
end
end Go.Proofs.YtnlaiahcemckkaaGreatDoor.Av
