import Derived.Test.YtdifanfcaemokaaGreatDoorPEC
import Derived.Test.YtdifanfcaemokaaGreatDoorAwK
open Prod (fst)
open Int (tdiv tmod)
set_option maxHeartbeats 4000000
set_option maxRecDepth 100000
set_option linter.unusedVariables false
set_option linter.unusedSimpArgs false
namespace Go.Proofs.YtdifanfcaemokaaGreatDoor.Av
noncomputable section
open Go Go.Proofs
def JD (c_0:Gh):HT Bool True:=.run (cs 2 []) (fun _=>Hg) <|
  .bd (Qk c_0) fun r1=>.run [oc,rN [.any] (.bool r1) [],oc] (fun γ=>Gb (Gfz c_0 r1 γ.2)) <|
  .sp (r1=true)
  (.run [bf] (fun γ=>Gb ((Gx γ.2):(!r1)=false)) <|
  .bd (Gfc c_0) fun r4=>.run (oc::(rN [.any] (.tup [.agg (G2.enc r4.1),jI r4.2]) [])::(cs 6 [])) (fun γ=>Gb (Goy c_0 r4 γ.2)) <|
  .bd (Qj c_0) fun r6=>.run (oc::(rN [.any] (.tup [.agg (G2.enc r6.1),.bool r6.2]) [])::(cs 6 [])) (fun γ=>Gb (Gfy c_0 r6 γ.2)) <|
  .sp (r4.2=(0:Int))
  (.sp (r6.2=true)
  (.bd (GvR r4.1 r6.1) fun r10=>.sp (r10=true)
  (.bd (Gbe r4.1.Config) fun r13=>.sp (r13=(0:Int))
  (.bd (Gq8) fun r16=>.run (oc::oa::oc::tc::(cs 2 (tc::oc::(rN [.any,.any] (.bool r10) [])::(cs 2 (tc::oc::(rN [.any] (jI r13) [])::oa::(cs 2 ((.ret (some true) [] (.bool r16) [])::(cs 2 [])))))))) (fun γ=>k2 (Gu (yA6 γ)) (k2 (RA γ) (k2 (Gpt r4.1 r6.1 r10 (HW γ)) (k2 (G0 γ) (k2 (Gau r4.1.Config r13 γ.1.1.2) (k2 (Gu γ.1.2) (Gb (Gm7 r16 γ.2)))))))) <|
  .leaf r16 [])
  (.run (oc::oa::oc::tc::(cs 2 (tc::oc::(rN [.any,.any] (.bool r10) [])::(cs 2 (tc::oc::(rN [.any] (jI r13) [])::oa::(cs 2 (oF::(cs 2 [])))))))) (fun γ=>k2 (Gu (RA γ)) (k2 (HW γ) (k2 (Gpt r4.1 r6.1 r10 (G0 γ)) (k2 γ.1.1.2 (k2 (Gau r4.1.Config r13 γ.1.2) (Gb (Gz γ.2))))))) <|
  .leaf false []))
  (.run (oc::oa::oc::tc::(cs 2 (tc::oc::(rN [.any,.any] (.bool r10) [])::(cs 2 (oF::(cs 8 [])))))) (fun γ=>k2 (Gu (G0 γ)) (k2 γ.1.1.2 (k2 (Gpt r4.1 r6.1 r10 γ.1.2) (Gb ((Ja γ.2):r10=false))))) <|
  .leaf false []))
  (.run (oc::oa::oc::tc::(cs 2 (oF::(cs 13 [])))) (fun γ=>k2 (Gu γ.1.2) (Gb ((Ja γ.2):r6.2=false))) <|
  .leaf false []))
  (.run (oc::oa::oc::oF::(cs 16 [])) (fun γ=>Gb (Gz γ.2)) <|
  .leaf false []))
  (.run [bt] (fun γ=>Gb ((Gy (Ja γ.2)):(!r1)=true)) <|
  .bd (Gq8) fun r18=>.run [rN [] (.bool r18) [],oc] (fun γ=>Gb (Gm7 r18 γ.2)) <|
  .leaf r18 [])
def Jn (c_0:Gh):Option Bool:=(JD c_0).den
theorem GaG (c_0:Gh) (r:Bool) (h:Jn c_0=some r):RT 3 [.agg (Gh.enc c_0)] (.bool r) []:=
 HA.of_ht 400 (JD c_0) (fun (r:Bool)=>.bool r) (fun (r:Bool)=>[]) (by kernel_rfl) h
end
set_option maxHeartbeats 4000000
noncomputable section
theorem GpK (c:Gh) (h:Goc c):Gfc c=some (stC c,0):=by
 simp only [Gfc,Gfd,dA,Gor c h.cs,GxL c h,h.ok,Hd,if_true]
 rfl
theorem Gr0 (c:Gh) (h:Goc c):GrH c=some (stC c,0):=by
 simp only [GrH,GoH,dA,GbI c h.cs,h.ok,Hd,if_true]
 rfl
theorem Gx7 (c:Gh) (h:Goc c):Qj c=some (stC c,true):=by
 simp only [Qj,Rv,dA,Gr0 c h,Hd]
 rfl
theorem GnF (c:Gh) (hd:∀ x ∈ c.Devices,Guh x) (hp:∀ p ∈ c.Permits,∀ x ∈ p.Plates,Ls x) (ha:∀ a ∈ c.Accounts,GpF a) (hc:Sm c.Caps):Jn c=some true:=by
 have aw:Gq8=some true:=rfl
 obtain ⟨b,hb,hi⟩:=Gys c hd hp ha hc
 cases b with
 | false=>simp only [Jn,JD,dA,hb,aw,Hd,Bool.false_eq_true,if_false]
 | true=>
  have h:=hi rfl
  have hk:Gbe (stC c).Config=some 0:=by rw [show (stC c).Config=c from rfl,GbI c h.cs,h.ok]
  simp only [Jn,JD,dA,hb,aw,GpK c h,Gx7 c h,show GvR (stC c) (stC c)=some true from if_pos ⟨rfl,rfl⟩,hk,Hd,if_true]
end
set_option maxHeartbeats 4000000
set_option maxRecDepth 100000
noncomputable section
open Go Go.Proofs Go.ChangeShapes Go.WideShapes Go.ChangeAt Go.RowKit
def Gr.wf (x:Gr):Prop:=(JR x.Name)∧(GS .i64 x.Kind)∧(JR x.System)
theorem Gr.reads (n:Nat):GG Tryz.prog (n+2) 144 Gr.enc Gr.wf:=fun c h=>by
 have h:=Ha Tryz.underlying144 h
 obtain ⟨a0,b0,h0,g0,h⟩:=h
 obtain ⟨a1,b1,h1,g1,h⟩:=h
 obtain ⟨a2,b2,h2,g2,h⟩:=h
 have e:=h
 obtain ⟨x0,e0,w0⟩:=((Hi Tryz.underlying9):GG Tryz.prog (n+1) 9 (fun s:List UInt8=>[.str s]) JR) _ g0
 obtain ⟨x1,e1,w1⟩:=((GM Tryz.underlying3):GG Tryz.prog (n+1) 3 (fun z:Int=>[jI z]) (GS .i64)) _ g1
 obtain ⟨x2,e2,w2⟩:=((Hi Tryz.underlying9):GG Tryz.prog (n+1) 9 (fun s:List UInt8=>[.str s]) JR) _ g2
 simp only [KL] at e
 subst e e0 e1 e2
 subst h2
 subst h1
 subst h0
 exact ⟨⟨x0,x1,x2⟩,rfl,w0,w1,w2⟩
def GW.wf (x:GW):Prop:=(JR x.From)∧(JR x.To)∧(GS .i64 x.Min)∧(GS .i64 x.Max)
theorem GW.reads (n:Nat):GG Tryz.prog (n+2) 162 GW.enc GW.wf:=fun c h=>by
 have h:=Ha Tryz.underlying162 h
 obtain ⟨a0,b0,h0,g0,h⟩:=h
 obtain ⟨a1,b1,h1,g1,h⟩:=h
 obtain ⟨a2,b2,h2,g2,h⟩:=h
 obtain ⟨a3,b3,h3,g3,h⟩:=h
 have e:=h
 obtain ⟨x0,e0,w0⟩:=((Hi Tryz.underlying9):GG Tryz.prog (n+1) 9 (fun s:List UInt8=>[.str s]) JR) _ g0
 obtain ⟨x1,e1,w1⟩:=((Hi Tryz.underlying9):GG Tryz.prog (n+1) 9 (fun s:List UInt8=>[.str s]) JR) _ g1
 obtain ⟨x2,e2,w2⟩:=((GM Tryz.underlying3):GG Tryz.prog (n+1) 3 (fun z:Int=>[jI z]) (GS .i64)) _ g2
 obtain ⟨x3,e3,w3⟩:=((GM Tryz.underlying3):GG Tryz.prog (n+1) 3 (fun z:Int=>[jI z]) (GS .i64)) _ g3
 simp only [KL] at e
 subst e e0 e1 e2 e3
 subst h3
 subst h2
 subst h1
 subst h0
 exact ⟨⟨x0,x1,x2,x3⟩,rfl,w0,w1,w2,w3⟩
def Gf.wf (x:Gf):Prop:=(Jv 40 Gr.wf x.Points)∧(Jv 48 GW.wf x.Links)
theorem Gf.reads (n:Nat):GG Tryz.prog (n+4) 25 Gf.enc Gf.wf:=fun c h=>by
 have h:=Ha Tryz.underlying25 h
 obtain ⟨a0,b0,h0,g0,h⟩:=h
 obtain ⟨a1,b1,h1,g1,h⟩:=h
 have e:=h
 obtain ⟨x0,e0,w0⟩:=((G7 Tryz.underlying22 (by kernel_rfl) (Gr.reads _)):GG Tryz.prog (n+3) 22 (Vc Gr.enc) (Jv 40 Gr.wf)) _ g0
 obtain ⟨x1,e1,w1⟩:=((G7 Tryz.underlying23 (by kernel_rfl) (GW.reads _)):GG Tryz.prog (n+3) 23 (Vc GW.enc) (Jv 48 GW.wf)) _ g1
 simp only [KL] at e
 subst e e0 e1
 subst h1
 subst h0
 exact ⟨⟨x0,x1⟩,rfl,w0,w1⟩
def Gm.wf (x:Gm):Prop:=(JR x.Name)∧True∧(GS .i64 x.Most)
theorem Gm.reads (n:Nat):GG Tryz.prog (n+2) 146 Gm.enc Gm.wf:=fun c h=>by
 have h:=Ha Tryz.underlying146 h
 obtain ⟨a0,b0,h0,g0,h⟩:=h
 obtain ⟨a1,b1,h1,g1,h⟩:=h
 obtain ⟨a2,b2,h2,g2,h⟩:=h
 have e:=h
 obtain ⟨x0,e0,w0⟩:=((Hi Tryz.underlying9):GG Tryz.prog (n+1) 9 (fun s:List UInt8=>[.str s]) JR) _ g0
 obtain ⟨x1,e1,w1⟩:=((GhP Tryz.underlying4):GG Tryz.prog (n+1) 4 (fun b:Bool=>[.bool b]) (fun _=>True)) _ g1
 obtain ⟨x2,e2,w2⟩:=((GM Tryz.underlying3):GG Tryz.prog (n+1) 3 (fun z:Int=>[jI z]) (GS .i64)) _ g2
 simp only [KL] at e
 subst e e0 e1 e2
 subst h2
 subst h1
 subst h0
 exact ⟨⟨x0,x1,x2⟩,rfl,w0,w1,w2⟩
def Ga.wf (x:Ga):Prop:=(Gf.wf x.Net)∧(Jv 32 Gm.wf x.Systems)
theorem Ga.reads (n:Nat):GG Tryz.prog (n+5) 28 Ga.enc Ga.wf:=fun c h=>by
 have h:=Ha Tryz.underlying28 h
 obtain ⟨a0,b0,h0,g0,h⟩:=h
 obtain ⟨a1,b1,h1,g1,h⟩:=h
 have e:=h
 obtain ⟨x0,e0,w0⟩:=((Gf.reads _):GG Tryz.prog (n+4) 25 Gf.enc Gf.wf) _ g0
 obtain ⟨x1,e1,w1⟩:=((G7 Tryz.underlying26 (by kernel_rfl) (Gm.reads _)):GG Tryz.prog (n+4) 26 (Vc Gm.enc) (Jv 32 Gm.wf)) _ g1
 simp only [KL] at e
 subst e e0 e1
 subst h1
 subst h0
 exact ⟨⟨x0,x1⟩,rfl,w0,w1⟩
def GF.wf (x:GF):Prop:=(GS .i64 x.From)∧(GS .i64 x.Delta)
theorem GF.reads (n:Nat):GG Tryz.prog (n+2) 167 GF.enc GF.wf:=fun c h=>by
 have h:=Ha Tryz.underlying167 h
 obtain ⟨a0,b0,h0,g0,h⟩:=h
 obtain ⟨a1,b1,h1,g1,h⟩:=h
 have e:=h
 obtain ⟨x0,e0,w0⟩:=((GM Tryz.underlying3):GG Tryz.prog (n+1) 3 (fun z:Int=>[jI z]) (GS .i64)) _ g0
 obtain ⟨x1,e1,w1⟩:=((GM Tryz.underlying3):GG Tryz.prog (n+1) 3 (fun z:Int=>[jI z]) (GS .i64)) _ g1
 simp only [KL] at e
 subst e e0 e1
 subst h1
 subst h0
 exact ⟨⟨x0,x1⟩,rfl,w0,w1⟩
def Gp.wf (x:Gp):Prop:=(GS .i64 x.From)∧(GS .i64 x.To)
theorem Gp.reads (n:Nat):GG Tryz.prog (n+2) 79 Gp.enc Gp.wf:=fun c h=>by
 have h:=Ha Tryz.underlying79 h
 obtain ⟨a0,b0,h0,g0,h⟩:=h
 obtain ⟨a1,b1,h1,g1,h⟩:=h
 have e:=h
 obtain ⟨x0,e0,w0⟩:=((GM Tryz.underlying3):GG Tryz.prog (n+1) 3 (fun z:Int=>[jI z]) (GS .i64)) _ g0
 obtain ⟨x1,e1,w1⟩:=((GM Tryz.underlying3):GG Tryz.prog (n+1) 3 (fun z:Int=>[jI z]) (GS .i64)) _ g1
 simp only [KL] at e
 subst e e0 e1
 subst h1
 subst h0
 exact ⟨⟨x0,x1⟩,rfl,w0,w1⟩
def Gj.wf (x:Gj):Prop:=(JR x.Name)∧(JR x.Point)∧(GS .i64 x.Kind)∧(GS .i64 x.Lane)∧(Jv 16 GF.wf x.Offsets)∧(Jv 16 Gp.wf x.Down)
theorem Gj.reads (n:Nat):GG Tryz.prog (n+4) 77 Gj.enc Gj.wf:=fun c h=>by
 have h:=Ha Tryz.underlying77 h
 obtain ⟨a0,b0,h0,g0,h⟩:=h
 obtain ⟨a1,b1,h1,g1,h⟩:=h
 obtain ⟨a2,b2,h2,g2,h⟩:=h
 obtain ⟨a3,b3,h3,g3,h⟩:=h
 obtain ⟨a4,b4,h4,g4,h⟩:=h
 obtain ⟨a5,b5,h5,g5,h⟩:=h
 have e:=h
 obtain ⟨x0,e0,w0⟩:=((Hi Tryz.underlying9):GG Tryz.prog (n+3) 9 (fun s:List UInt8=>[.str s]) JR) _ g0
 obtain ⟨x1,e1,w1⟩:=((Hi Tryz.underlying9):GG Tryz.prog (n+3) 9 (fun s:List UInt8=>[.str s]) JR) _ g1
 obtain ⟨x2,e2,w2⟩:=((GM Tryz.underlying3):GG Tryz.prog (n+3) 3 (fun z:Int=>[jI z]) (GS .i64)) _ g2
 obtain ⟨x3,e3,w3⟩:=((GM Tryz.underlying3):GG Tryz.prog (n+3) 3 (fun z:Int=>[jI z]) (GS .i64)) _ g3
 obtain ⟨x4,e4,w4⟩:=((G7 Tryz.underlying74 (by kernel_rfl) (GF.reads _)):GG Tryz.prog (n+3) 74 (Vc GF.enc) (Jv 16 GF.wf)) _ g4
 obtain ⟨x5,e5,w5⟩:=((G7 Tryz.underlying75 (by kernel_rfl) (Gp.reads _)):GG Tryz.prog (n+3) 75 (Vc Gp.enc) (Jv 16 Gp.wf)) _ g5
 simp only [KL] at e
 subst e e0 e1 e2 e3 e4 e5
 subst h5
 subst h4
 subst h3
 subst h2
 subst h1
 subst h0
 exact ⟨⟨x0,x1,x2,x3,x4,x5⟩,rfl,w0,w1,w2,w3,w4,w5⟩
def Gk.wf (x:Gk):Prop:=(GS .i64 x.From)∧(GS .i64 x.To)∧(GS .i64 x.Class)
theorem Gk.reads (n:Nat):GG Tryz.prog (n+2) 172 Gk.enc Gk.wf:=fun c h=>by
 have h:=Ha Tryz.underlying172 h
 obtain ⟨a0,b0,h0,g0,h⟩:=h
 obtain ⟨a1,b1,h1,g1,h⟩:=h
 obtain ⟨a2,b2,h2,g2,h⟩:=h
 have e:=h
 obtain ⟨x0,e0,w0⟩:=((GM Tryz.underlying3):GG Tryz.prog (n+1) 3 (fun z:Int=>[jI z]) (GS .i64)) _ g0
 obtain ⟨x1,e1,w1⟩:=((GM Tryz.underlying3):GG Tryz.prog (n+1) 3 (fun z:Int=>[jI z]) (GS .i64)) _ g1
 obtain ⟨x2,e2,w2⟩:=((GM Tryz.underlying3):GG Tryz.prog (n+1) 3 (fun z:Int=>[jI z]) (GS .i64)) _ g2
 simp only [KL] at e
 subst e e0 e1 e2
 subst h2
 subst h1
 subst h0
 exact ⟨⟨x0,x1,x2⟩,rfl,w0,w1,w2⟩
def Gs.wf (x:Gs):Prop:=(JR x.Tag)∧(GS .i64 x.From)∧(GS .i64 x.State)
theorem Gs.reads (n:Nat):GG Tryz.prog (n+2) 175 Gs.enc Gs.wf:=fun c h=>by
 have h:=Ha Tryz.underlying175 h
 obtain ⟨a0,b0,h0,g0,h⟩:=h
 obtain ⟨a1,b1,h1,g1,h⟩:=h
 obtain ⟨a2,b2,h2,g2,h⟩:=h
 have e:=h
 obtain ⟨x0,e0,w0⟩:=((Hi Tryz.underlying9):GG Tryz.prog (n+1) 9 (fun s:List UInt8=>[.str s]) JR) _ g0
 obtain ⟨x1,e1,w1⟩:=((GM Tryz.underlying3):GG Tryz.prog (n+1) 3 (fun z:Int=>[jI z]) (GS .i64)) _ g1
 obtain ⟨x2,e2,w2⟩:=((GM Tryz.underlying3):GG Tryz.prog (n+1) 3 (fun z:Int=>[jI z]) (GS .i64)) _ g2
 simp only [KL] at e
 subst e e0 e1 e2
 subst h2
 subst h1
 subst h0
 exact ⟨⟨x0,x1,x2⟩,rfl,w0,w1,w2⟩
def Gl.wf (x:Gl):Prop:=(GS .i64 x.Days)∧(GS .i64 x.From)∧(GS .i64 x.To)
theorem Gl.reads (n:Nat):GG Tryz.prog (n+2) 179 Gl.enc Gl.wf:=fun c h=>by
 have h:=Ha Tryz.underlying179 h
 obtain ⟨a0,b0,h0,g0,h⟩:=h
 obtain ⟨a1,b1,h1,g1,h⟩:=h
 obtain ⟨a2,b2,h2,g2,h⟩:=h
 have e:=h
 obtain ⟨x0,e0,w0⟩:=((GM Tryz.underlying3):GG Tryz.prog (n+1) 3 (fun z:Int=>[jI z]) (GS .i64)) _ g0
 obtain ⟨x1,e1,w1⟩:=((GM Tryz.underlying3):GG Tryz.prog (n+1) 3 (fun z:Int=>[jI z]) (GS .i64)) _ g1
 obtain ⟨x2,e2,w2⟩:=((GM Tryz.underlying3):GG Tryz.prog (n+1) 3 (fun z:Int=>[jI z]) (GS .i64)) _ g2
 simp only [KL] at e
 subst e e0 e1 e2
 subst h2
 subst h1
 subst h0
 exact ⟨⟨x0,x1,x2⟩,rfl,w0,w1,w2⟩
def GR.wf (x:GR):Prop:=(JR x.Name)∧(Gl.wf x.Window)
theorem GR.reads (n:Nat):GG Tryz.prog (n+3) 181 GR.enc GR.wf:=fun c h=>by
 have h:=Ha Tryz.underlying181 h
 obtain ⟨a0,b0,h0,g0,h⟩:=h
 obtain ⟨a1,b1,h1,g1,h⟩:=h
 have e:=h
 obtain ⟨x0,e0,w0⟩:=((Hi Tryz.underlying9):GG Tryz.prog (n+2) 9 (fun s:List UInt8=>[.str s]) JR) _ g0
 obtain ⟨x1,e1,w1⟩:=((Gl.reads _):GG Tryz.prog (n+2) 179 Gl.enc Gl.wf) _ g1
 simp only [KL] at e
 subst e e0 e1
 subst h1
 subst h0
 exact ⟨⟨x0,x1⟩,rfl,w0,w1⟩
def GC.wf (x:GC):Prop:=(JR x.From)∧(JR x.To)∧(GS .i64 x.Class)∧(JR x.Band)∧(GS .i64 x.Cents)
theorem GC.reads (n:Nat):GG Tryz.prog (n+2) 148 GC.enc GC.wf:=fun c h=>by
 have h:=Ha Tryz.underlying148 h
 obtain ⟨a0,b0,h0,g0,h⟩:=h
 obtain ⟨a1,b1,h1,g1,h⟩:=h
 obtain ⟨a2,b2,h2,g2,h⟩:=h
 obtain ⟨a3,b3,h3,g3,h⟩:=h
 obtain ⟨a4,b4,h4,g4,h⟩:=h
 have e:=h
 obtain ⟨x0,e0,w0⟩:=((Hi Tryz.underlying9):GG Tryz.prog (n+1) 9 (fun s:List UInt8=>[.str s]) JR) _ g0
 obtain ⟨x1,e1,w1⟩:=((Hi Tryz.underlying9):GG Tryz.prog (n+1) 9 (fun s:List UInt8=>[.str s]) JR) _ g1
 obtain ⟨x2,e2,w2⟩:=((GM Tryz.underlying3):GG Tryz.prog (n+1) 3 (fun z:Int=>[jI z]) (GS .i64)) _ g2
 obtain ⟨x3,e3,w3⟩:=((Hi Tryz.underlying9):GG Tryz.prog (n+1) 9 (fun s:List UInt8=>[.str s]) JR) _ g3
 obtain ⟨x4,e4,w4⟩:=((GM Tryz.underlying3):GG Tryz.prog (n+1) 3 (fun z:Int=>[jI z]) (GS .i64)) _ g4
 simp only [KL] at e
 subst e e0 e1 e2 e3 e4
 subst h4
 subst h3
 subst h2
 subst h1
 subst h0
 exact ⟨⟨x0,x1,x2,x3,x4⟩,rfl,w0,w1,w2,w3,w4⟩
def Gd.wf (x:Gd):Prop:=(Gp.wf x.Valid)∧(Jv 40 GR.wf x.Bands)∧(Jv 64 GC.wf x.Rates)
theorem Gd.reads (n:Nat):GG Tryz.prog (n+5) 83 Gd.enc Gd.wf:=fun c h=>by
 have h:=Ha Tryz.underlying83 h
 obtain ⟨a0,b0,h0,g0,h⟩:=h
 obtain ⟨a1,b1,h1,g1,h⟩:=h
 obtain ⟨a2,b2,h2,g2,h⟩:=h
 have e:=h
 obtain ⟨x0,e0,w0⟩:=((Gp.reads _):GG Tryz.prog (n+4) 79 Gp.enc Gp.wf) _ g0
 obtain ⟨x1,e1,w1⟩:=((G7 Tryz.underlying80 (by kernel_rfl) (GR.reads _)):GG Tryz.prog (n+4) 80 (Vc GR.enc) (Jv 40 GR.wf)) _ g1
 obtain ⟨x2,e2,w2⟩:=((G7 Tryz.underlying81 (by kernel_rfl) (GC.reads _)):GG Tryz.prog (n+4) 81 (Vc GC.enc) (Jv 64 GC.wf)) _ g2
 simp only [KL] at e
 subst e e0 e1 e2
 subst h2
 subst h1
 subst h0
 exact ⟨⟨x0,x1,x2⟩,rfl,w0,w1,w2⟩
def GI.wf (x:GI):Prop:=(GS .i64 x.Period)∧(Jv 8 (GS .i64) x.Up)∧(Jv 8 (GS .i64) x.Down)∧(Jv 8 (GS .i64) x.Parts)
theorem GI.reads (n:Nat):GG Tryz.prog (n+3) 35 GI.enc GI.wf:=fun c h=>by
 have h:=Ha Tryz.underlying35 h
 obtain ⟨a0,b0,h0,g0,h⟩:=h
 obtain ⟨a1,b1,h1,g1,h⟩:=h
 obtain ⟨a2,b2,h2,g2,h⟩:=h
 obtain ⟨a3,b3,h3,g3,h⟩:=h
 have e:=h
 obtain ⟨x0,e0,w0⟩:=((GM Tryz.underlying3):GG Tryz.prog (n+2) 3 (fun z:Int=>[jI z]) (GS .i64)) _ g0
 obtain ⟨x1,e1,w1⟩:=((G7 Tryz.underlying33 (by kernel_rfl) (GM Tryz.underlying3)):GG Tryz.prog (n+2) 33 (Vc (fun z:Int=>[jI z])) (Jv 8 (GS .i64))) _ g1
 obtain ⟨x2,e2,w2⟩:=((G7 Tryz.underlying33 (by kernel_rfl) (GM Tryz.underlying3)):GG Tryz.prog (n+2) 33 (Vc (fun z:Int=>[jI z])) (Jv 8 (GS .i64))) _ g2
 obtain ⟨x3,e3,w3⟩:=((G7 Tryz.underlying33 (by kernel_rfl) (GM Tryz.underlying3)):GG Tryz.prog (n+2) 33 (Vc (fun z:Int=>[jI z])) (Jv 8 (GS .i64))) _ g3
 simp only [KL] at e
 subst e e0 e1 e2 e3
 subst h3
 subst h2
 subst h1
 subst h0
 exact ⟨⟨x0,x1,x2,x3⟩,rfl,w0,w1,w2,w3⟩
def Gi.wf (x:Gi):Prop:=(JR x.Name)∧(GS .i64 x.Kind)∧(GS .i64 x.Amount)∧(JR x.Group)∧(JR x.System)∧(GS .i64 x.Class)∧(Gl.wf x.Window)∧(GS .i64 x.Least)
theorem Gi.reads (n:Nat):GG Tryz.prog (n+3) 187 Gi.enc Gi.wf:=fun c h=>by
 have h:=Ha Tryz.underlying187 h
 obtain ⟨a0,b0,h0,g0,h⟩:=h
 obtain ⟨a1,b1,h1,g1,h⟩:=h
 obtain ⟨a2,b2,h2,g2,h⟩:=h
 obtain ⟨a3,b3,h3,g3,h⟩:=h
 obtain ⟨a4,b4,h4,g4,h⟩:=h
 obtain ⟨a5,b5,h5,g5,h⟩:=h
 obtain ⟨a6,b6,h6,g6,h⟩:=h
 obtain ⟨a7,b7,h7,g7,h⟩:=h
 have e:=h
 obtain ⟨x0,e0,w0⟩:=((Hi Tryz.underlying9):GG Tryz.prog (n+2) 9 (fun s:List UInt8=>[.str s]) JR) _ g0
 obtain ⟨x1,e1,w1⟩:=((GM Tryz.underlying3):GG Tryz.prog (n+2) 3 (fun z:Int=>[jI z]) (GS .i64)) _ g1
 obtain ⟨x2,e2,w2⟩:=((GM Tryz.underlying3):GG Tryz.prog (n+2) 3 (fun z:Int=>[jI z]) (GS .i64)) _ g2
 obtain ⟨x3,e3,w3⟩:=((Hi Tryz.underlying9):GG Tryz.prog (n+2) 9 (fun s:List UInt8=>[.str s]) JR) _ g3
 obtain ⟨x4,e4,w4⟩:=((Hi Tryz.underlying9):GG Tryz.prog (n+2) 9 (fun s:List UInt8=>[.str s]) JR) _ g4
 obtain ⟨x5,e5,w5⟩:=((GM Tryz.underlying3):GG Tryz.prog (n+2) 3 (fun z:Int=>[jI z]) (GS .i64)) _ g5
 obtain ⟨x6,e6,w6⟩:=((Gl.reads _):GG Tryz.prog (n+2) 179 Gl.enc Gl.wf) _ g6
 obtain ⟨x7,e7,w7⟩:=((GM Tryz.underlying3):GG Tryz.prog (n+2) 3 (fun z:Int=>[jI z]) (GS .i64)) _ g7
 simp only [KL] at e
 subst e e0 e1 e2 e3 e4 e5 e6 e7
 subst h7
 subst h6
 subst h5
 subst h4
 subst h3
 subst h2
 subst h1
 subst h0
 exact ⟨⟨x0,x1,x2,x3,x4,x5,x6,x7⟩,rfl,w0,w1,w2,w3,w4,w5,w6,w7⟩
def G9.wf (x:G9):Prop:=(JR x.Name)∧(JR x.System)∧(GS .i64 x.Days)∧(GS .i64 x.Cents)
theorem G9.reads (n:Nat):GG Tryz.prog (n+2) 127 G9.enc G9.wf:=fun c h=>by
 have h:=Ha Tryz.underlying127 h
 obtain ⟨a0,b0,h0,g0,h⟩:=h
 obtain ⟨a1,b1,h1,g1,h⟩:=h
 obtain ⟨a2,b2,h2,g2,h⟩:=h
 obtain ⟨a3,b3,h3,g3,h⟩:=h
 have e:=h
 obtain ⟨x0,e0,w0⟩:=((Hi Tryz.underlying9):GG Tryz.prog (n+1) 9 (fun s:List UInt8=>[.str s]) JR) _ g0
 obtain ⟨x1,e1,w1⟩:=((Hi Tryz.underlying9):GG Tryz.prog (n+1) 9 (fun s:List UInt8=>[.str s]) JR) _ g1
 obtain ⟨x2,e2,w2⟩:=((GM Tryz.underlying3):GG Tryz.prog (n+1) 3 (fun z:Int=>[jI z]) (GS .i64)) _ g2
 obtain ⟨x3,e3,w3⟩:=((GM Tryz.underlying3):GG Tryz.prog (n+1) 3 (fun z:Int=>[jI z]) (GS .i64)) _ g3
 simp only [KL] at e
 subst e e0 e1 e2 e3
 subst h3
 subst h2
 subst h1
 subst h0
 exact ⟨⟨x0,x1,x2,x3⟩,rfl,w0,w1,w2,w3⟩
def Gv.wf (x:Gv):Prop:=(GS .i64 x.Upto)∧(GS .i64 x.Unit)∧(GS .i64 x.Cents)
theorem Gv.reads (n:Nat):GG Tryz.prog (n+2) 193 Gv.enc Gv.wf:=fun c h=>by
 have h:=Ha Tryz.underlying193 h
 obtain ⟨a0,b0,h0,g0,h⟩:=h
 obtain ⟨a1,b1,h1,g1,h⟩:=h
 obtain ⟨a2,b2,h2,g2,h⟩:=h
 have e:=h
 obtain ⟨x0,e0,w0⟩:=((GM Tryz.underlying3):GG Tryz.prog (n+1) 3 (fun z:Int=>[jI z]) (GS .i64)) _ g0
 obtain ⟨x1,e1,w1⟩:=((GM Tryz.underlying3):GG Tryz.prog (n+1) 3 (fun z:Int=>[jI z]) (GS .i64)) _ g1
 obtain ⟨x2,e2,w2⟩:=((GM Tryz.underlying3):GG Tryz.prog (n+1) 3 (fun z:Int=>[jI z]) (GS .i64)) _ g2
 simp only [KL] at e
 subst e e0 e1 e2
 subst h2
 subst h1
 subst h0
 exact ⟨⟨x0,x1,x2⟩,rfl,w0,w1,w2⟩
def Gg.wf (x:Gg):Prop:=(JR x.Name)∧(Jv 24 Gl.wf x.Hours)∧(Jv 24 Gv.wf x.Steps)∧(GS .i64 x.Grace)∧(GS .i64 x.Free)∧(GS .i64 x.DayMax)∧(GS .i64 x.MaxStay)
theorem Gg.reads (n:Nat):GG Tryz.prog (n+4) 87 Gg.enc Gg.wf:=fun c h=>by
 have h:=Ha Tryz.underlying87 h
 obtain ⟨a0,b0,h0,g0,h⟩:=h
 obtain ⟨a1,b1,h1,g1,h⟩:=h
 obtain ⟨a2,b2,h2,g2,h⟩:=h
 obtain ⟨a3,b3,h3,g3,h⟩:=h
 obtain ⟨a4,b4,h4,g4,h⟩:=h
 obtain ⟨a5,b5,h5,g5,h⟩:=h
 obtain ⟨a6,b6,h6,g6,h⟩:=h
 have e:=h
 obtain ⟨x0,e0,w0⟩:=((Hi Tryz.underlying9):GG Tryz.prog (n+3) 9 (fun s:List UInt8=>[.str s]) JR) _ g0
 obtain ⟨x1,e1,w1⟩:=((G7 Tryz.underlying84 (by kernel_rfl) (Gl.reads _)):GG Tryz.prog (n+3) 84 (Vc Gl.enc) (Jv 24 Gl.wf)) _ g1
 obtain ⟨x2,e2,w2⟩:=((G7 Tryz.underlying85 (by kernel_rfl) (Gv.reads _)):GG Tryz.prog (n+3) 85 (Vc Gv.enc) (Jv 24 Gv.wf)) _ g2
 obtain ⟨x3,e3,w3⟩:=((GM Tryz.underlying3):GG Tryz.prog (n+3) 3 (fun z:Int=>[jI z]) (GS .i64)) _ g3
 obtain ⟨x4,e4,w4⟩:=((GM Tryz.underlying3):GG Tryz.prog (n+3) 3 (fun z:Int=>[jI z]) (GS .i64)) _ g4
 obtain ⟨x5,e5,w5⟩:=((GM Tryz.underlying3):GG Tryz.prog (n+3) 3 (fun z:Int=>[jI z]) (GS .i64)) _ g5
 obtain ⟨x6,e6,w6⟩:=((GM Tryz.underlying3):GG Tryz.prog (n+3) 3 (fun z:Int=>[jI z]) (GS .i64)) _ g6
 simp only [KL] at e
 subst e e0 e1 e2 e3 e4 e5 e6
 subst h6
 subst h5
 subst h4
 subst h3
 subst h2
 subst h1
 subst h0
 exact ⟨⟨x0,x1,x2,x3,x4,x5,x6⟩,rfl,w0,w1,w2,w3,w4,w5,w6⟩
def Gw.wf (x:Gw):Prop:=(JR x.Name)∧(JR x.Zone)∧(Jv 16 JR x.Plates)∧(Gp.wf x.Valid)∧(Jv 24 Gl.wf x.Hours)∧(GS .i64 x.Most)
theorem Gw.reads (n:Nat):GG Tryz.prog (n+4) 90 Gw.enc Gw.wf:=fun c h=>by
 have h:=Ha Tryz.underlying90 h
 obtain ⟨a0,b0,h0,g0,h⟩:=h
 obtain ⟨a1,b1,h1,g1,h⟩:=h
 obtain ⟨a2,b2,h2,g2,h⟩:=h
 obtain ⟨a3,b3,h3,g3,h⟩:=h
 obtain ⟨a4,b4,h4,g4,h⟩:=h
 obtain ⟨a5,b5,h5,g5,h⟩:=h
 have e:=h
 obtain ⟨x0,e0,w0⟩:=((Hi Tryz.underlying9):GG Tryz.prog (n+3) 9 (fun s:List UInt8=>[.str s]) JR) _ g0
 obtain ⟨x1,e1,w1⟩:=((Hi Tryz.underlying9):GG Tryz.prog (n+3) 9 (fun s:List UInt8=>[.str s]) JR) _ g1
 obtain ⟨x2,e2,w2⟩:=((G7 Tryz.underlying88 (by kernel_rfl) (Hi Tryz.underlying9)):GG Tryz.prog (n+3) 88 (Vc (fun s:List UInt8=>[.str s])) (Jv 16 JR)) _ g2
 obtain ⟨x3,e3,w3⟩:=((Gp.reads _):GG Tryz.prog (n+3) 79 Gp.enc Gp.wf) _ g3
 obtain ⟨x4,e4,w4⟩:=((G7 Tryz.underlying84 (by kernel_rfl) (Gl.reads _)):GG Tryz.prog (n+3) 84 (Vc Gl.enc) (Jv 24 Gl.wf)) _ g4
 obtain ⟨x5,e5,w5⟩:=((GM Tryz.underlying3):GG Tryz.prog (n+3) 3 (fun z:Int=>[jI z]) (GS .i64)) _ g5
 simp only [KL] at e
 subst e e0 e1 e2 e3 e4 e5
 subst h5
 subst h4
 subst h3
 subst h2
 subst h1
 subst h0
 exact ⟨⟨x0,x1,x2,x3,x4,x5⟩,rfl,w0,w1,w2,w3,w4,w5⟩
def Gn.wf (x:Gn):Prop:=(JR x.Tag)∧(JR x.Plate)∧(Gp.wf x.Time)
theorem Gn.reads (n:Nat):GG Tryz.prog (n+3) 201 Gn.enc Gn.wf:=fun c h=>by
 have h:=Ha Tryz.underlying201 h
 obtain ⟨a0,b0,h0,g0,h⟩:=h
 obtain ⟨a1,b1,h1,g1,h⟩:=h
 obtain ⟨a2,b2,h2,g2,h⟩:=h
 have e:=h
 obtain ⟨x0,e0,w0⟩:=((Hi Tryz.underlying9):GG Tryz.prog (n+2) 9 (fun s:List UInt8=>[.str s]) JR) _ g0
 obtain ⟨x1,e1,w1⟩:=((Hi Tryz.underlying9):GG Tryz.prog (n+2) 9 (fun s:List UInt8=>[.str s]) JR) _ g1
 obtain ⟨x2,e2,w2⟩:=((Gp.reads _):GG Tryz.prog (n+2) 79 Gp.enc Gp.wf) _ g2
 simp only [KL] at e
 subst e e0 e1 e2
 subst h2
 subst h1
 subst h0
 exact ⟨⟨x0,x1,x2⟩,rfl,w0,w1,w2⟩
def JA.wf (x:JA):Prop:=(GS .i64 x.Below)∧(GS .i64 x.Cents)∧(GS .i64 x.Tries)∧(GS .i64 x.Wait)
theorem JA.reads (n:Nat):GG Tryz.prog (n+2) 93 JA.enc JA.wf:=fun c h=>by
 have h:=Ha Tryz.underlying93 h
 obtain ⟨a0,b0,h0,g0,h⟩:=h
 obtain ⟨a1,b1,h1,g1,h⟩:=h
 obtain ⟨a2,b2,h2,g2,h⟩:=h
 obtain ⟨a3,b3,h3,g3,h⟩:=h
 have e:=h
 obtain ⟨x0,e0,w0⟩:=((GM Tryz.underlying3):GG Tryz.prog (n+1) 3 (fun z:Int=>[jI z]) (GS .i64)) _ g0
 obtain ⟨x1,e1,w1⟩:=((GM Tryz.underlying3):GG Tryz.prog (n+1) 3 (fun z:Int=>[jI z]) (GS .i64)) _ g1
 obtain ⟨x2,e2,w2⟩:=((GM Tryz.underlying3):GG Tryz.prog (n+1) 3 (fun z:Int=>[jI z]) (GS .i64)) _ g2
 obtain ⟨x3,e3,w3⟩:=((GM Tryz.underlying3):GG Tryz.prog (n+1) 3 (fun z:Int=>[jI z]) (GS .i64)) _ g3
 simp only [KL] at e
 subst e e0 e1 e2 e3
 subst h3
 subst h2
 subst h1
 subst h0
 exact ⟨⟨x0,x1,x2,x3⟩,rfl,w0,w1,w2,w3⟩
def Gc.wf (x:Gc):Prop:=(JR x.Name)∧(JR x.Agency)∧True∧(Jv 48 Gn.wf x.Owned)∧(JA.wf x.Refill)∧True
theorem Gc.reads (n:Nat):GG Tryz.prog (n+5) 95 Gc.enc Gc.wf:=fun c h=>by
 have h:=Ha Tryz.underlying95 h
 obtain ⟨a0,b0,h0,g0,h⟩:=h
 obtain ⟨a1,b1,h1,g1,h⟩:=h
 obtain ⟨a2,b2,h2,g2,h⟩:=h
 obtain ⟨a3,b3,h3,g3,h⟩:=h
 obtain ⟨a4,b4,h4,g4,h⟩:=h
 obtain ⟨a5,b5,h5,g5,h⟩:=h
 have e:=h
 obtain ⟨x0,e0,w0⟩:=((Hi Tryz.underlying9):GG Tryz.prog (n+4) 9 (fun s:List UInt8=>[.str s]) JR) _ g0
 obtain ⟨x1,e1,w1⟩:=((Hi Tryz.underlying9):GG Tryz.prog (n+4) 9 (fun s:List UInt8=>[.str s]) JR) _ g1
 obtain ⟨x2,e2,w2⟩:=((GhP Tryz.underlying4):GG Tryz.prog (n+4) 4 (fun b:Bool=>[.bool b]) (fun _=>True)) _ g2
 obtain ⟨x3,e3,w3⟩:=((G7 Tryz.underlying91 (by kernel_rfl) (Gn.reads _)):GG Tryz.prog (n+4) 91 (Vc Gn.enc) (Jv 48 Gn.wf)) _ g3
 obtain ⟨x4,e4,w4⟩:=((JA.reads _):GG Tryz.prog (n+4) 93 JA.enc JA.wf) _ g4
 obtain ⟨x5,e5,w5⟩:=((GhP Tryz.underlying4):GG Tryz.prog (n+4) 4 (fun b:Bool=>[.bool b]) (fun _=>True)) _ g5
 simp only [KL] at e
 subst e e0 e1 e2 e3 e4 e5
 subst h5
 subst h4
 subst h3
 subst h2
 subst h1
 subst h0
 exact ⟨⟨x0,x1,x2,x3,x4,x5⟩,rfl,w0,w1,w2,w3,w4,w5⟩
def GA.wf (x:GA):Prop:=(GS .i64 x.Kind)∧(GS .i64 x.Part)
theorem GA.reads (n:Nat):GG Tryz.prog (n+2) 205 GA.enc GA.wf:=fun c h=>by
 have h:=Ha Tryz.underlying205 h
 obtain ⟨a0,b0,h0,g0,h⟩:=h
 obtain ⟨a1,b1,h1,g1,h⟩:=h
 have e:=h
 obtain ⟨x0,e0,w0⟩:=((GM Tryz.underlying3):GG Tryz.prog (n+1) 3 (fun z:Int=>[jI z]) (GS .i64)) _ g0
 obtain ⟨x1,e1,w1⟩:=((GM Tryz.underlying3):GG Tryz.prog (n+1) 3 (fun z:Int=>[jI z]) (GS .i64)) _ g1
 simp only [KL] at e
 subst e e0 e1
 subst h1
 subst h0
 exact ⟨⟨x0,x1⟩,rfl,w0,w1⟩
def GO.wf (x:GO):Prop:=(Jv 8 (GS .i64) x.Days)∧(Jv 8 (GS .i64) x.Fees)∧(GS .i64 x.Limit)
theorem GO.reads (n:Nat):GG Tryz.prog (n+3) 43 GO.enc GO.wf:=fun c h=>by
 have h:=Ha Tryz.underlying43 h
 obtain ⟨a0,b0,h0,g0,h⟩:=h
 obtain ⟨a1,b1,h1,g1,h⟩:=h
 obtain ⟨a2,b2,h2,g2,h⟩:=h
 have e:=h
 obtain ⟨x0,e0,w0⟩:=((G7 Tryz.underlying33 (by kernel_rfl) (GM Tryz.underlying3)):GG Tryz.prog (n+2) 33 (Vc (fun z:Int=>[jI z])) (Jv 8 (GS .i64))) _ g0
 obtain ⟨x1,e1,w1⟩:=((G7 Tryz.underlying33 (by kernel_rfl) (GM Tryz.underlying3)):GG Tryz.prog (n+2) 33 (Vc (fun z:Int=>[jI z])) (Jv 8 (GS .i64))) _ g1
 obtain ⟨x2,e2,w2⟩:=((GM Tryz.underlying3):GG Tryz.prog (n+2) 3 (fun z:Int=>[jI z]) (GS .i64)) _ g2
 simp only [KL] at e
 subst e e0 e1 e2
 subst h2
 subst h1
 subst h0
 exact ⟨⟨x0,x1,x2⟩,rfl,w0,w1,w2⟩
def Gq.wf (x:Gq):Prop:=(GS .i64 x.Purpose)∧(GS .i64 x.Seconds)∧(GS .i64 x.Least)
theorem Gq.reads (n:Nat):GG Tryz.prog (n+2) 208 Gq.enc Gq.wf:=fun c h=>by
 have h:=Ha Tryz.underlying208 h
 obtain ⟨a0,b0,h0,g0,h⟩:=h
 obtain ⟨a1,b1,h1,g1,h⟩:=h
 obtain ⟨a2,b2,h2,g2,h⟩:=h
 have e:=h
 obtain ⟨x0,e0,w0⟩:=((GM Tryz.underlying3):GG Tryz.prog (n+1) 3 (fun z:Int=>[jI z]) (GS .i64)) _ g0
 obtain ⟨x1,e1,w1⟩:=((GM Tryz.underlying3):GG Tryz.prog (n+1) 3 (fun z:Int=>[jI z]) (GS .i64)) _ g1
 obtain ⟨x2,e2,w2⟩:=((GM Tryz.underlying3):GG Tryz.prog (n+1) 3 (fun z:Int=>[jI z]) (GS .i64)) _ g2
 simp only [KL] at e
 subst e e0 e1 e2
 subst h2
 subst h1
 subst h0
 exact ⟨⟨x0,x1,x2⟩,rfl,w0,w1,w2⟩
def Gh.wf (x:Gh):Prop:=(Ga.wf x.Top)∧(Jv 96 Gj.wf x.Devices)∧(Jv 24 Gk.wf x.Classes)∧(Jv 32 Gs.wf x.Tags)∧(GS .i64 x.Gap)∧(GS .i64 x.Weak)∧(Jv 64 Gd.wf x.Tariffs)∧(GI.wf x.Scale)∧(Jv 104 Gi.wf x.Discounts)∧(Jv 48 G9.wf x.Caps)∧(Jv 96 Gg.wf x.Zones)∧(Jv 104 Gw.wf x.Permits)∧(Jv 104 Gc.wf x.Accounts)∧(Jv 16 GA.wf x.Reliefs)∧(Jv 8 (GS .i64) x.Holidays)∧(GO.wf x.Law)∧(Jv 24 Gq.wf x.Keeping)∧(JR x.Agency)
theorem Gh.reads (n:Nat):GG Tryz.prog (n+7) 46 Gh.enc Gh.wf:=fun c h=>by
 have h:=Ha Tryz.underlying46 h
 obtain ⟨a0,b0,h0,g0,h⟩:=h
 obtain ⟨a1,b1,h1,g1,h⟩:=h
 obtain ⟨a2,b2,h2,g2,h⟩:=h
 obtain ⟨a3,b3,h3,g3,h⟩:=h
 obtain ⟨a4,b4,h4,g4,h⟩:=h
 obtain ⟨a5,b5,h5,g5,h⟩:=h
 obtain ⟨a6,b6,h6,g6,h⟩:=h
 obtain ⟨a7,b7,h7,g7,h⟩:=h
 obtain ⟨a8,b8,h8,g8,h⟩:=h
 obtain ⟨a9,b9,h9,g9,h⟩:=h
 obtain ⟨a10,b10,h10,g10,h⟩:=h
 obtain ⟨a11,b11,h11,g11,h⟩:=h
 obtain ⟨a12,b12,h12,g12,h⟩:=h
 obtain ⟨a13,b13,h13,g13,h⟩:=h
 obtain ⟨a14,b14,h14,g14,h⟩:=h
 obtain ⟨a15,b15,h15,g15,h⟩:=h
 obtain ⟨a16,b16,h16,g16,h⟩:=h
 obtain ⟨a17,b17,h17,g17,h⟩:=h
 have e:=h
 obtain ⟨x0,e0,w0⟩:=((Ga.reads _):GG Tryz.prog (n+6) 28 Ga.enc Ga.wf) _ g0
 obtain ⟨x1,e1,w1⟩:=((G7 Tryz.underlying29 (by kernel_rfl) (Gj.reads _)):GG Tryz.prog (n+6) 29 (Vc Gj.enc) (Jv 96 Gj.wf)) _ g1
 obtain ⟨x2,e2,w2⟩:=((G7 Tryz.underlying30 (by kernel_rfl) (Gk.reads _)):GG Tryz.prog (n+6) 30 (Vc Gk.enc) (Jv 24 Gk.wf)) _ g2
 obtain ⟨x3,e3,w3⟩:=((G7 Tryz.underlying31 (by kernel_rfl) (Gs.reads _)):GG Tryz.prog (n+6) 31 (Vc Gs.enc) (Jv 32 Gs.wf)) _ g3
 obtain ⟨x4,e4,w4⟩:=((GM Tryz.underlying3):GG Tryz.prog (n+6) 3 (fun z:Int=>[jI z]) (GS .i64)) _ g4
 obtain ⟨x5,e5,w5⟩:=((GM Tryz.underlying3):GG Tryz.prog (n+6) 3 (fun z:Int=>[jI z]) (GS .i64)) _ g5
 obtain ⟨x6,e6,w6⟩:=((G7 Tryz.underlying32 (by kernel_rfl) (Gd.reads _)):GG Tryz.prog (n+6) 32 (Vc Gd.enc) (Jv 64 Gd.wf)) _ g6
 obtain ⟨x7,e7,w7⟩:=((GI.reads _):GG Tryz.prog (n+6) 35 GI.enc GI.wf) _ g7
 obtain ⟨x8,e8,w8⟩:=((G7 Tryz.underlying36 (by kernel_rfl) (Gi.reads _)):GG Tryz.prog (n+6) 36 (Vc Gi.enc) (Jv 104 Gi.wf)) _ g8
 obtain ⟨x9,e9,w9⟩:=((G7 Tryz.underlying37 (by kernel_rfl) (G9.reads _)):GG Tryz.prog (n+6) 37 (Vc G9.enc) (Jv 48 G9.wf)) _ g9
 obtain ⟨x10,e10,w10⟩:=((G7 Tryz.underlying38 (by kernel_rfl) (Gg.reads _)):GG Tryz.prog (n+6) 38 (Vc Gg.enc) (Jv 96 Gg.wf)) _ g10
 obtain ⟨x11,e11,w11⟩:=((G7 Tryz.underlying39 (by kernel_rfl) (Gw.reads _)):GG Tryz.prog (n+6) 39 (Vc Gw.enc) (Jv 104 Gw.wf)) _ g11
 obtain ⟨x12,e12,w12⟩:=((G7 Tryz.underlying40 (by kernel_rfl) (Gc.reads _)):GG Tryz.prog (n+6) 40 (Vc Gc.enc) (Jv 104 Gc.wf)) _ g12
 obtain ⟨x13,e13,w13⟩:=((G7 Tryz.underlying41 (by kernel_rfl) (GA.reads _)):GG Tryz.prog (n+6) 41 (Vc GA.enc) (Jv 16 GA.wf)) _ g13
 obtain ⟨x14,e14,w14⟩:=((G7 Tryz.underlying33 (by kernel_rfl) (GM Tryz.underlying3)):GG Tryz.prog (n+6) 33 (Vc (fun z:Int=>[jI z])) (Jv 8 (GS .i64))) _ g14
 obtain ⟨x15,e15,w15⟩:=((GO.reads _):GG Tryz.prog (n+6) 43 GO.enc GO.wf) _ g15
 obtain ⟨x16,e16,w16⟩:=((G7 Tryz.underlying44 (by kernel_rfl) (Gq.reads _)):GG Tryz.prog (n+6) 44 (Vc Gq.enc) (Jv 24 Gq.wf)) _ g16
 obtain ⟨x17,e17,w17⟩:=((Hi Tryz.underlying9):GG Tryz.prog (n+6) 9 (fun s:List UInt8=>[.str s]) JR) _ g17
 simp only [KL] at e
 subst e e0 e1 e2 e3 e4 e5 e6 e7 e8 e9 e10 e11 e12 e13 e14 e15 e16 e17
 subst h17
 subst h16
 subst h15
 subst h14
 subst h13
 subst h12
 subst h11
 subst h10
 subst h9
 subst h8
 subst h7
 subst h6
 subst h5
 subst h4
 subst h3
 subst h2
 subst h1
 subst h0
 exact ⟨⟨x0,x1,x2,x3,x4,x5,x6,x7,x8,x9,x10,x11,x12,x13,x14,x15,x16,x17⟩,rfl,w0,w1,w2,w3,w4,w5,w6,w7,w8,w9,w10,w11,w12,w13,w14,w15,w16,w17⟩
end
end Go.Proofs.YtdifanfcaemokaaGreatDoor.Av
