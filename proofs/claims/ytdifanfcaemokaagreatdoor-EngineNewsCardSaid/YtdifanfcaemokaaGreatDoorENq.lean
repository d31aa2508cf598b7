import Derived.Test.YtdifanfcaemokaaGreatDoorPEx
open Prod (fst)
open Int (tdiv tmod)
set_option maxRecDepth 100000
set_option linter.unusedVariables false
set_option linter.unusedSimpArgs false
namespace Go.Proofs.YtdifanfcaemokaaGreatDoor.Av
noncomputable section
open Go Go.Proofs
def stC (c:Gh):G2:=⟨c,[],[],[],0,⟨[],[],[],[],[],[]⟩,⟨⟨[]⟩,[]⟩,[],0⟩
def GvR (a b:G2):Option Bool:=@ite _ (a=stC a.Config∧b=stC b.Config) (Classical.propDecidable _) (some true) none
def GAD:HT Bool True:=.run (cs 2000 []) (fun _=>Hg) <| .leaf true []
theorem Gzq (c d:Gh):RT 8 [.agg (G2.enc (stC c)),.agg (G2.enc (stC d))] (.bool true) []:=
 HA.of_ht 400 GAD (fun r=>.bool r) (fun _=>[]) (by kernel_rfl) rfl
theorem Gpt (a b:G2) (r:Bool) (h:GvR a b=some r):RT 8 [.agg (G2.enc a),.agg (G2.enc b)] (.bool r) []:=by
 unfold GvR at h
 split at h
 ·rename_i q
  obtain rfl:=Option.some.inj h
  rw [q.1,q.2]; exact Gzq _ _
 ·cases h
end
set_option maxRecDepth 100000
noncomputable section
open Go Go.Proofs
theorem GAx {T:Type} {f:T→List AV} {z:Nat} (hz:∀ x,(f x).length=z) (l:List T):(fl f l).length=mu l.length z:=by
 rw [GZ hz]; unfold mu
 cases h:Nat.beq z 1 with
 | false=>rfl
 | true=>have:=Nat.eq_of_beq_eq_true h; subst this; exact Nat.mul_one _
def clN (T:Type) (z e:Nat):HT (List T) True:=.run (cs 3 [bt,.op none .c,.tr (.vec (.t 2) z e)]) (fun _=>Gb tT) <| .leaf [] [0]
def clE (T:Type) (L:Nat):HT (List T) True:=.run (cs 3 (bf::(cs 2 [.tr (.wid (.t 5)),oN (.ap 4),oc]))) (fun _=>k2 fF (k2 ((Nat.le_refl _):0≤0) (k2 (rfl:List.length ([]:List AV)=0) (k2 (rfl:List.all ([]:List AV) AV.one=true) (Gb (Nat.zero_le L:0≤L)))))) <| .leaf [] [1]
def clC {T:Type} (f:T→List AV) {z:Nat} (L:Nat) (hz:∀ x,(f x).length=z) (h1:∀ x,(f x).all AV.one=true) (l:List T):HT (List T) True:=
 .gd (0+l.length≤L) <| .run (cs 3 (bf::(cs 2 [.tr (.wid (.t 5)),oN (.ap 4),.tr (.eqc 1 (fl f l)),.tr (.eqt (.t 7) (.vec 1 l.length z)),oc]))) (fun γ=>k2 fF (k2 ((Nat.le_refl _):0≤0) (k2 (GAx hz l:List.length (fl f l:List AV)=mu l.length z) (k2 (rfl:List.length ([]:List AV)=0) (k2 (Gvx h1 l:List.all (fl f l:List AV) AV.one=true) (k2 γ.2 (k2 (rfl:[]++fl f l=fl f l) (Gb (congrArg (fun n=>AV.vec 1 n z) (Nat.zero_add l.length):(.vec 1 (0+l.length) z:AV)=.vec 1 l.length z))))))))) <| .leaf l [1]
def G6 {T:Type} (L:Nat) (l:List T):Option (List T):=if 0+l.length≤L then some l else none
abbrev clT (P:Program) (G:Nat→AV) {T:Type} (g:FuncId) (f:T→List AV) (z e:Nat) (a:AV) (t:HT (List T) True):OT:=tFn P G 400 g [a] ⟨.e,0⟩ t (fun r=>.vec 0 r.length z) (fun r=>[bV (fl f r) e]) fun _=>true
theorem JF {P:Program} {G:Nat→AV} {T:Type} {g:FuncId} (f:T→List AV) (z e L:Nat) (hz:∀ x,(f x).length=z) (h1:∀ x,(f x).all AV.one=true)
  (k0:(clT P G g f z e .nils (clN T z e)).L=(clT P G g f z e .nils (clN T z e)).R) (k1:(clT P G g f z e .nen (clE T L)).L=(clT P G g f z e .nen (clE T L)).R)
  (k2:∀ x l,(clT P G g f z e (.lst (f x++fl f l) (l.length+1)) (clC f L hz h1 (x::l))).L=(clT P G g f z e (.lst (f x++fl f l) (l.length+1)) (clC f L hz h1 (x::l))).R) {l r:List T} (h:G6 L l=some r):
  HA P G g [.lst (fl f l) l.length] (.vec 0 r.length z) [bV (fl f r) e]:=by
 obtain ⟨hl,h⟩:=gdS h
 obtain rfl:=Option.some.inj h
 cases l with
 | nil=>exact HA.lst0 (HA.of_ht 400 (clN T z e) _ _ k0 rfl) (HA.of_ht 400 (clE T L) _ _ k1 rfl)
 | cons x l=>exact HA.of_ht 400 (clC f L hz h1 (x::l)) (fun r=>.vec 0 r.length z) (fun r=>[bV (fl f r) e]) (k2 x l) (if_pos hl)
theorem cl53 (l r:List Gr) (h:G6 4294967296 l=some r):RT 53 [.lst (fl Gr.enc l) l.length] (.vec 0 r.length 3) [bV (fl Gr.enc r) 144]:=
 JF Gr.enc 3 144 4294967296 (fun _=>rfl) (fun _=>rfl) (by kernel_rfl) (by kernel_rfl) (fun x l=>by kernel_rfl) h
theorem cl54 (l r:List GW) (h:G6 4294967296 l=some r):RT 54 [.lst (fl GW.enc l) l.length] (.vec 0 r.length 4) [bV (fl GW.enc r) 162]:=
 JF GW.enc 4 162 4294967296 (fun _=>rfl) (fun _=>rfl) (by kernel_rfl) (by kernel_rfl) (fun x l=>by kernel_rfl) h
theorem cl55 (l r:List Gm) (h:G6 4294967296 l=some r):RT 55 [.lst (fl Gm.enc l) l.length] (.vec 0 r.length 3) [bV (fl Gm.enc r) 146]:=
 JF Gm.enc 3 146 4294967296 (fun _=>rfl) (fun _=>rfl) (by kernel_rfl) (by kernel_rfl) (fun x l=>by kernel_rfl) h
theorem cl58 (l r:List GF) (h:G6 8796093022000 l=some r):RT 58 [.lst (fl GF.enc l) l.length] (.vec 0 r.length 2) [bV (fl GF.enc r) 167]:=
 JF GF.enc 2 167 8796093022000 (fun _=>rfl) (fun _=>rfl) (by kernel_rfl) (by kernel_rfl) (fun x l=>by kernel_rfl) h
theorem cl59 (l r:List Gp) (h:G6 8796093022000 l=some r):RT 59 [.lst (fl Gp.enc l) l.length] (.vec 0 r.length 2) [bV (fl Gp.enc r) 79]:=
 JF Gp.enc 2 79 8796093022000 (fun _=>rfl) (fun _=>rfl) (by kernel_rfl) (by kernel_rfl) (fun x l=>by kernel_rfl) h
theorem cl60 (l r:List Gk) (h:G6 4294967296 l=some r):RT 60 [.lst (fl Gk.enc l) l.length] (.vec 0 r.length 3) [bV (fl Gk.enc r) 172]:=
 JF Gk.enc 3 172 4294967296 (fun _=>rfl) (fun _=>rfl) (by kernel_rfl) (by kernel_rfl) (fun x l=>by kernel_rfl) h
theorem cl61 (l r:List Gs) (h:G6 4294967296 l=some r):RT 61 [.lst (fl Gs.enc l) l.length] (.vec 0 r.length 3) [bV (fl Gs.enc r) 175]:=
 JF Gs.enc 3 175 4294967296 (fun _=>rfl) (fun _=>rfl) (by kernel_rfl) (by kernel_rfl) (fun x l=>by kernel_rfl) h
theorem cl64 (l r:List GR) (h:G6 4294967296 l=some r):RT 64 [.lst (fl GR.enc l) l.length] (.vec 0 r.length 4) [bV (fl GR.enc r) 181]:=
 JF GR.enc 4 181 4294967296 (fun _=>rfl) (fun _=>rfl) (by kernel_rfl) (by kernel_rfl) (fun x l=>by kernel_rfl) h
theorem cl65 (l r:List GC) (h:G6 4294967296 l=some r):RT 65 [.lst (fl GC.enc l) l.length] (.vec 0 r.length 5) [bV (fl GC.enc r) 148]:=
 JF GC.enc 5 148 4294967296 (fun _=>rfl) (fun _=>rfl) (by kernel_rfl) (by kernel_rfl) (fun x l=>by kernel_rfl) h
theorem Gwb (l r:List Int) (h:G6 8796093022000 l=some r):RT 66 [.lst (fl GU l) l.length] (.vec 0 r.length 1) [bV (fl GU r) 3]:=
 JF GU 1 3 8796093022000 (fun _=>rfl) (fun _=>rfl) (by kernel_rfl) (by kernel_rfl) (fun x l=>by kernel_rfl) h
theorem cl67 (l r:List Gi) (h:G6 4294967296 l=some r):RT 67 [.lst (fl Gi.enc l) l.length] (.vec 0 r.length 10) [bV (fl Gi.enc r) 187]:=
 JF Gi.enc 10 187 4294967296 (fun _=>rfl) (fun _=>rfl) (by kernel_rfl) (by kernel_rfl) (fun x l=>by kernel_rfl) h
theorem cl68 (l r:List G9) (h:G6 4294967296 l=some r):RT 68 [.lst (fl G9.enc l) l.length] (.vec 0 r.length 4) [bV (fl G9.enc r) 127]:=
 JF G9.enc 4 127 4294967296 (fun _=>rfl) (fun _=>rfl) (by kernel_rfl) (by kernel_rfl) (fun x l=>by kernel_rfl) h
theorem cl71 (l r:List Gl) (h:G6 4294967296 l=some r):RT 71 [.lst (fl Gl.enc l) l.length] (.vec 0 r.length 3) [bV (fl Gl.enc r) 179]:=
 JF Gl.enc 3 179 4294967296 (fun _=>rfl) (fun _=>rfl) (by kernel_rfl) (by kernel_rfl) (fun x l=>by kernel_rfl) h
theorem cl72 (l r:List Gv) (h:G6 4294967296 l=some r):RT 72 [.lst (fl Gv.enc l) l.length] (.vec 0 r.length 3) [bV (fl Gv.enc r) 193]:=
 JF Gv.enc 3 193 4294967296 (fun _=>rfl) (fun _=>rfl) (by kernel_rfl) (by kernel_rfl) (fun x l=>by kernel_rfl) h
theorem cl75 (l r:List (List UInt8)) (h:G6 8796093022000 l=some r):RT 75 [.lst (fl JB l) l.length] (.vec 0 r.length 1) [bV (fl JB r) 9]:=
 JF JB 1 9 8796093022000 (fun _=>rfl) (fun _=>rfl) (by kernel_rfl) (by kernel_rfl) (fun x l=>by kernel_rfl) h
theorem cl78 (l r:List Gn) (h:G6 4294967296 l=some r):RT 78 [.lst (fl Gn.enc l) l.length] (.vec 0 r.length 4) [bV (fl Gn.enc r) 201]:=
 JF Gn.enc 4 201 4294967296 (fun _=>rfl) (fun _=>rfl) (by kernel_rfl) (by kernel_rfl) (fun x l=>by kernel_rfl) h
theorem cl79 (l r:List GA) (h:G6 8796093022000 l=some r):RT 79 [.lst (fl GA.enc l) l.length] (.vec 0 r.length 2) [bV (fl GA.enc r) 205]:=
 JF GA.enc 2 205 8796093022000 (fun _=>rfl) (fun _=>rfl) (by kernel_rfl) (by kernel_rfl) (fun x l=>by kernel_rfl) h
theorem cl80 (l r:List Gq) (h:G6 4294967296 l=some r):RT 80 [.lst (fl Gq.enc l) l.length] (.vec 0 r.length 3) [bV (fl Gq.enc r) 208]:=
 JF Gq.enc 3 208 4294967296 (fun _=>rfl) (fun _=>rfl) (by kernel_rfl) (by kernel_rfl) (fun x l=>by kernel_rfl) h
end
set_option maxHeartbeats 4000000
set_option maxRecDepth 100000
noncomputable section
open Go Go.Proofs
def MJ (d_0:Gj):HT Gj True:=.run (cs 2 []) (fun _=>Hg) <|
  .bd (G6 8796093022000 d_0.Offsets) fun r1=>.bd (G6 8796093022000 d_0.Down) fun r3=>.run (cs 2 ((rN [.any] (.vec 0 r1.length 2) [(bV (fl GF.enc r1) 167)])::(cs 2 ((rN [.any] (.vec 0 r3.length 2) [(bV (fl Gp.enc r3) 79)])::(cs 6 [.tr (.frz [.c 1 4] (fl GF.enc r1) r1.length),.tr (.frz [.c 1 5] (fl Gp.enc r3) r3.length)]))))) (fun γ=>k2 (cl58 d_0.Offsets r1 γ.1.2) (k2 (cl59 d_0.Down r3 γ.2) (k2 (⟨rfl,rfl,rfl,(GZ (f:=GF.enc) (z:=2) (fun _=>rfl) _)⟩:2=2∧(fl GF.enc r1)=(fl GF.enc r1)∧r1.length=r1.length∧List.length (fl GF.enc r1)=(r1.length*2)) (Gb (⟨rfl,rfl,rfl,(GZ (f:=Gp.enc) (z:=2) (fun _=>rfl) _)⟩:3=3∧(fl Gp.enc r3)=(fl Gp.enc r3)∧r3.length=r3.length∧List.length (fl Gp.enc r3)=(r3.length*2)))))) <|
  .leaf (⟨d_0.Name,d_0.Point,d_0.Kind,d_0.Lane,r1,r3⟩:Gj) []
def HE (d_0:Gj):Option Gj:=(MJ d_0).den
theorem Gb8 (d_0:Gj) (r:Gj) (h:HE d_0=some r):RT 57 [.agg (Gj.enc d_0)] (.agg (Gj.enc r)) []:=
 HA.of_ht 400 (MJ d_0) (fun (r:Gj)=>.agg (Gj.enc r)) (fun (r:Gj)=>[]) (by kernel_rfl) h
def MK (x_0:Gd):HT Gd True:=.run (cs 2 []) (fun _=>Hg) <|
  .bd (G6 4294967296 x_0.Bands) fun r1=>.bd (G6 4294967296 x_0.Rates) fun r3=>.run (cs 2 ((rN [.any] (.vec 0 r1.length 4) [(bV (fl GR.enc r1) 181)])::(cs 2 ((rN [.any] (.vec 0 r3.length 5) [(bV (fl GC.enc r3) 148)])::(cs 6 [.tr (.frz [.c 1 2] (fl GR.enc r1) r1.length),.tr (.frz [.c 1 3] (fl GC.enc r3) r3.length)]))))) (fun γ=>k2 (cl64 x_0.Bands r1 γ.1.2) (k2 (cl65 x_0.Rates r3 γ.2) (k2 (⟨rfl,rfl,rfl,(GZ (f:=GR.enc) (z:=4) (fun _=>rfl) _)⟩:2=2∧(fl GR.enc r1)=(fl GR.enc r1)∧r1.length=r1.length∧List.length (fl GR.enc r1)=(r1.length*4)) (Gb (⟨rfl,rfl,rfl,(GZ (f:=GC.enc) (z:=5) (fun _=>rfl) _)⟩:3=3∧(fl GC.enc r3)=(fl GC.enc r3)∧r3.length=r3.length∧List.length (fl GC.enc r3)=(r3.length*5)))))) <|
  .leaf (⟨x_0.Valid,r1,r3⟩:Gd) []
def HF (x_0:Gd):Option Gd:=(MK x_0).den
theorem Gb9 (x_0:Gd) (r:Gd) (h:HF x_0=some r):RT 63 [.agg (Gd.enc x_0)] (.agg (Gd.enc r)) []:=
 HA.of_ht 400 (MK x_0) (fun (r:Gd)=>.agg (Gd.enc r)) (fun (r:Gd)=>[]) (by kernel_rfl) h
def ML (z_0:Gg):HT Gg True:=.run (cs 2 []) (fun _=>Hg) <|
  .bd (G6 4294967296 z_0.Hours) fun r1=>.bd (G6 4294967296 z_0.Steps) fun r3=>.run (cs 2 ((rN [.any] (.vec 0 r1.length 3) [(bV (fl Gl.enc r1) 179)])::(cs 2 ((rN [.any] (.vec 0 r3.length 3) [(bV (fl Gv.enc r3) 193)])::(cs 6 [.tr (.frz [.c 1 1] (fl Gl.enc r1) r1.length),.tr (.frz [.c 1 2] (fl Gv.enc r3) r3.length)]))))) (fun γ=>k2 (cl71 z_0.Hours r1 γ.1.2) (k2 (cl72 z_0.Steps r3 γ.2) (k2 (⟨rfl,rfl,rfl,(GZ (f:=Gl.enc) (z:=3) (fun _=>rfl) _)⟩:2=2∧(fl Gl.enc r1)=(fl Gl.enc r1)∧r1.length=r1.length∧List.length (fl Gl.enc r1)=(r1.length*3)) (Gb (⟨rfl,rfl,rfl,(GZ (f:=Gv.enc) (z:=3) (fun _=>rfl) _)⟩:3=3∧(fl Gv.enc r3)=(fl Gv.enc r3)∧r3.length=r3.length∧List.length (fl Gv.enc r3)=(r3.length*3)))))) <|
  .leaf (⟨z_0.Name,r1,r3,z_0.Grace,z_0.Free,z_0.DayMax,z_0.MaxStay⟩:Gg) []
def HG (z_0:Gg):Option Gg:=(ML z_0).den
theorem Gca (z_0:Gg) (r:Gg) (h:HG z_0=some r):RT 70 [.agg (Gg.enc z_0)] (.agg (Gg.enc r)) []:=
 HA.of_ht 400 (ML z_0) (fun (r:Gg)=>.agg (Gg.enc r)) (fun (r:Gg)=>[]) (by kernel_rfl) h
def MM (p_0:Gw):HT Gw True:=.run (cs 2 []) (fun _=>Hg) <|
  .bd (G6 8796093022000 p_0.Plates) fun r1=>.bd (G6 4294967296 p_0.Hours) fun r3=>.run (cs 2 ((rN [.any] (.vec 0 r1.length 1) [(bV (fl JB r1) 9)])::(cs 2 ((rN [.any] (.vec 0 r3.length 3) [(bV (fl Gl.enc r3) 179)])::(cs 6 [.tr (.frz [.c 1 2] (fl JB r1) r1.length),.tr (.frz [.c 1 5] (fl Gl.enc r3) r3.length)]))))) (fun γ=>k2 (cl75 p_0.Plates r1 γ.1.2) (k2 (cl71 p_0.Hours r3 γ.2) (k2 (⟨rfl,rfl,rfl,(Rt (f:=JB) (fun _=>rfl) _)⟩:2=2∧(fl JB r1)=(fl JB r1)∧r1.length=r1.length∧List.length (fl JB r1)=r1.length) (Gb (⟨rfl,rfl,rfl,(GZ (f:=Gl.enc) (z:=3) (fun _=>rfl) _)⟩:3=3∧(fl Gl.enc r3)=(fl Gl.enc r3)∧r3.length=r3.length∧List.length (fl Gl.enc r3)=(r3.length*3)))))) <|
  .leaf (⟨p_0.Name,p_0.Zone,r1,p_0.Valid,r3,p_0.Most⟩:Gw) []
def HH (p_0:Gw):Option Gw:=(MM p_0).den
theorem Gcb (p_0:Gw) (r:Gw) (h:HH p_0=some r):RT 74 [.agg (Gw.enc p_0)] (.agg (Gw.enc r)) []:=
 HA.of_ht 400 (MM p_0) (fun (r:Gw)=>.agg (Gw.enc r)) (fun (r:Gw)=>[]) (by kernel_rfl) h
def MN (a_0:Gc):HT Gc True:=.run (cs 2 []) (fun _=>Hg) <|
  .bd (G6 4294967296 a_0.Owned) fun r1=>.run (cs 2 ((rN [.any] (.vec 0 r1.length 4) [(bV (fl Gn.enc r1) 201)])::(cs 4 [.tr (.frz [.c 1 3] (fl Gn.enc r1) r1.length)]))) (fun γ=>k2 (cl78 a_0.Owned r1 γ.2) (Gb (⟨rfl,rfl,rfl,(GZ (f:=Gn.enc) (z:=4) (fun _=>rfl) _)⟩:2=2∧(fl Gn.enc r1)=(fl Gn.enc r1)∧r1.length=r1.length∧List.length (fl Gn.enc r1)=(r1.length*4)))) <|
  .leaf (⟨a_0.Name,a_0.Agency,a_0.Prepay,r1,a_0.Refill,a_0.Exempt⟩:Gc) []
def HI (a_0:Gc):Option Gc:=(MN a_0).den
theorem Gcc (a_0:Gc) (r:Gc) (h:HI a_0=some r):RT 77 [.agg (Gc.enc a_0)] (.agg (Gc.enc r)) []:=
 HA.of_ht 400 (MN a_0) (fun (r:Gc)=>.agg (Gc.enc r)) (fun (r:Gc)=>[]) (by kernel_rfl) h
end
set_option maxRecDepth 100000
noncomputable section
open Go Go.Proofs
variable {P:Program} {G:Nat→AV} {T:Type}
def eaS (C:T→Option T) (l:List T):Nat×List T→Option ((Nat×List T)⊕List T)
 | (k,b)=>if (k:Int)<(l.length:Int) then (l[k]?).bind fun x=>(C x).bind fun r=>if b.length+1≤4294967296 then (if GS .i64 ((k:Int)+1) then some (.inl (k+1,b++[r])) else none) else none else some (.inr b)
def YT (C:T→Option T) (l:List T):Option (List T):=lp (eaS C l) (0,[])
def eaQ (f:T→List AV) (z:Nat) (C:T→Option T) (g:FuncId) (hz:∀ x,(f x).length=z+1) (h1:∀ x,(f x).all AV.one=true) (hC:∀ x r,C x=some r→HA P G g [.agg (f x)] (.agg (f r)) []) (l:List T):Nat×List T→HT ((Nat×List T)⊕List T) True
 | (k,b)=>.run [oa] (fun _=>Hg) <|
  .sp ((k:Int)<(l.length:Int))
  (.run [bt] (fun γ=>Gb (dT γ.2)) <|
  .bd (l[k]?) fun x=>.run ((oN (.i k))::(oN (.v (f x)))::(cs 2 [])) (fun γ=>k2 (ir γ.2) (k2 (GD hz γ.2) (Gb (GX hz γ.2 rfl:sub (fl f l) (k*(z+1)) (z+1)=f x)))) <|
  .bd (C x) fun r=>.gd (b.length+1≤4294967296) <| .run (cs 3 [rN [.any] (.agg (f r)) [],oc,oN (.ap 4),.tr (.eqc 3 (fl f (b++[r]))),.tr (.eqt (.t 19) (.vec 3 ((b++[r]).length) (z+1))),oc]) (fun γ=>k2 (hC x r γ.1.2) (k2 ((by rw [hz]; omega):0+(z+1)≤List.length (f r)) (k2 (GZ hz b:List.length (fl f b)=b.length*(z+1)) (k2 (h1 r) (k2 γ.2 (k2 (GyZ rfl:fl f b++f r=fl f (b++[r])) (Gb ((by simp):(.vec 3 (b.length+1) (z+1):AV)=.vec 3 ((b++[r]).length) (z+1))))))))) <|
  .gd (GS .i64 ((k:Int)+1)) <| .run [ow,oc] (fun γ=>Gb γ.2) <|
  .leaf (.inl (k+1,b++[r])) [3])
  (.run [bf] (fun γ=>Gb (dF γ.2)) <|
  .leaf (.inr b) [0])
def eaH (f:T→List AV) (z et:Nat) (g:FuncId) (l:List T):Nat×List T→PS:=fun s=>(22,[(1,.fn (.func g) [] []),(5,.vec 0 s.2.length (z+1)),(8,.lst (fl f l) l.length),(9,jI (l.length:Int)),(10,jI (s.1:Int))],[bV (fl f s.2) et])
def eaE (f:T→List AV) (z et:Nat):List T→PS:=fun o=>(22,[(5,.vec 0 o.length (z+1))],[bV (fl f o) et])
abbrev eaD (P:Program) (G:Nat→AV) (code:Code) (f:T→List AV) (z et:Nat) (C:T→Option T) (g:FuncId) (hz:∀ x,(f x).length=z+1) (h1:∀ x,(f x).all AV.one=true) (hC:∀ x r,C x=some r→HA P G g [.agg (f x)] (.agg (f r)) []) (l:List T) (q:Nat×List T):OT:=
 tDo P G 0 400 code (eaH f z et g l q).st (eaQ f z C g hz h1 hC l q) (Sum.elim (fun _=>Hm.normal) fun _=>.exit 0) (Sum.elim (eaH f z et g l) (eaE f z et)) (Sum.elim (fun _=>true) fun _=>(Hm.exit 0).out)
def eaF (f:T→List AV) (z et:Nat) (C:T→Option T) (g:FuncId) {code:Code} (l:List T) (hd:∀ o,lp (eaS C l) (0,[])=some o→GN P G 0 (.loop code) (eaH f z et g l (0,[])).st (.exit 0) (eaE f z et o).st):HT (List T) True:=
 .bd (lp (eaS C l) (0,[])) fun o=>.run (cs 5 ((.tr (.vec (.t 5) (z+1) et))::(.fcut 0 (.exit 0) [(5,.vec 0 o.length (z+1))] [bV (fl f o) et] [0] [(1,.any),(5,.vec 0 0 (z+1)),(8,.any),(9,.any),(10,jI 0)] [bV [] et])::(cs 2 []))) (fun γ=>k2 (rfl:(.vec 0 0 (z+1):AV)=.vec 0 0 (z+1)) (k2 (rfl:(jI 0:AV)=jI 0) (k2 (rfl:(bV [] et:Hb)=KO [0] (bV [] et)) (Gb (hd o γ.2))))) <| .leaf o [1]
theorem GkV {code:Code} {fn:FuncId} (f:T→List AV) (z et:Nat) (C:T→Option T) (g:FuncId) (hz:∀ x,(f x).length=z+1) (h1:∀ x,(f x).all AV.one=true) (hC:∀ x r,C x=some r→HA P G g [.agg (f x)] (.agg (f r)) [])
  (hk:∀ l q,(eaD P G code f z et C g hz h1 hC l q).L=(eaD P G code f z et C g hz h1 hC l q).R)
  (hf:∀ l (hd:∀ o,lp (eaS C l) (0,[])=some o→GN P G 0 (.loop code) (eaH f z et g l (0,[])).st (.exit 0) (eaE f z et o).st),(tFn P G 400 fn [.lst (fl f l) l.length,.fn (.func g) [] []] ⟨.e,0⟩ (eaF f z et C g l hd) (fun r=>.vec 0 r.length (z+1)) (fun r=>[bV (fl f r) et]) fun _=>true).L=(tFn P G 400 fn [.lst (fl f l) l.length,.fn (.func g) [] []] ⟨.e,0⟩ (eaF f z et C g l hd) (fun r=>.vec 0 r.length (z+1)) (fun r=>[bV (fl f r) et]) fun _=>true).R)
  {l r:List T} (h:YT C l=some r):HA P G fn [.lst (fl f l) l.length,.fn (.func g) [] []] (.vec 0 r.length (z+1)) [bV (fl f r) et]:=by
 have hd:∀ o,lp (eaS C l) (0,[])=some o→GN P G 0 (.loop code) (eaH f z et g l (0,[])).st (.exit 0) (eaE f z et o).st:=fun o ho=>by
  refine GN.lp_ht 0 400 (eaH f z et g l) (fun _=>.exit 0) (eaE f z et) (eaQ f z C g hz h1 hC l) (hk l) ?_
  rw [show (fun s=>(eaQ f z C g hz h1 hC l s).den)=eaS C l from funext fun s=>by cases s; rfl]
  exact ho
 refine HA.of_ht 400 (eaF f z et C g l hd) (fun r=>.vec 0 r.length (z+1)) (fun r=>[bV (fl f r) et]) (hf l hd) ?_
 show (lp (eaS C l) (0,[])).bind (fun o=>some o)=some r
 rw [show lp (eaS C l) (0,[])=some r from h]
 rfl
theorem ea56 (l r:List Gj) (h:YT HE l=some r):RT 56 [.lst (fl Gj.enc l) l.length,.fn (.func 57) [] []] (.vec 0 r.length 6) [bV (fl Gj.enc r) 77]:=
 GkV (code:=GK Tryz.prog 56 [1,1,0,1,0,0]) Gj.enc 5 77 HE 57 (fun _=>rfl) (fun _=>rfl) Gb8 (by rintro l ⟨k,b⟩; kernel_rfl) (fun l hd=>by kernel_rfl) h
theorem ea62 (l r:List Gd) (h:YT HF l=some r):RT 62 [.lst (fl Gd.enc l) l.length,.fn (.func 63) [] []] (.vec 0 r.length 4) [bV (fl Gd.enc r) 83]:=
 GkV (code:=GK Tryz.prog 62 [1,1,0,1,0,0]) Gd.enc 3 83 HF 63 (fun _=>rfl) (fun _=>rfl) Gb9 (by rintro l ⟨k,b⟩; kernel_rfl) (fun l hd=>by kernel_rfl) h
theorem ea69 (l r:List Gg) (h:YT HG l=some r):RT 69 [.lst (fl Gg.enc l) l.length,.fn (.func 70) [] []] (.vec 0 r.length 7) [bV (fl Gg.enc r) 87]:=
 GkV (code:=GK Tryz.prog 69 [1,1,0,1,0,0]) Gg.enc 6 87 HG 70 (fun _=>rfl) (fun _=>rfl) Gca (by rintro l ⟨k,b⟩; kernel_rfl) (fun l hd=>by kernel_rfl) h
theorem ea73 (l r:List Gw) (h:YT HH l=some r):RT 73 [.lst (fl Gw.enc l) l.length,.fn (.func 74) [] []] (.vec 0 r.length 7) [bV (fl Gw.enc r) 90]:=
 GkV (code:=GK Tryz.prog 73 [1,1,0,1,0,0]) Gw.enc 6 90 HH 74 (fun _=>rfl) (fun _=>rfl) Gcb (by rintro l ⟨k,b⟩; kernel_rfl) (fun l hd=>by kernel_rfl) h
theorem ea76 (l r:List Gc) (h:YT HI l=some r):RT 76 [.lst (fl Gc.enc l) l.length,.fn (.func 77) [] []] (.vec 0 r.length 9) [bV (fl Gc.enc r) 95]:=
 GkV (code:=GK Tryz.prog 76 [1,1,0,1,0,0]) Gc.enc 8 95 HI 77 (fun _=>rfl) (fun _=>rfl) Gcc (by rintro l ⟨k,b⟩; kernel_rfl) (fun l hd=>by kernel_rfl) h
end
set_option maxHeartbeats 4000000
set_option maxRecDepth 100000
noncomputable section
open Go Go.Proofs
def Rj (c_0:Gh):HT Gh True:=.run (cs 2 []) (fun _=>Hg) <|
  .bd (G6 4294967296 c_0.Top.Net.Points) fun r1=>.run (cs 4 ((rN [.any] (.vec 0 r1.length 3) [(bV (fl Gr.enc r1) 144)])::(cs 4 []))) (fun γ=>Gb (cl53 c_0.Top.Net.Points r1 γ.2)) <|
  .bd (G6 4294967296 c_0.Top.Net.Links) fun r3=>.run (cs 4 ((rN [.any] (.vec 0 r3.length 4) [(bV (fl GW.enc r3) 162)])::(cs 4 []))) (fun γ=>Gb (cl54 c_0.Top.Net.Links r3 γ.2)) <|
  .bd (G6 4294967296 c_0.Top.Systems) fun r5=>.run (cs 3 ((rN [.any] (.vec 0 r5.length 3) [(bV (fl Gm.enc r5) 146)])::(cs 3 []))) (fun γ=>Gb (cl55 c_0.Top.Systems r5 γ.2)) <|
  .bd (YT HE c_0.Devices) fun r7=>.run (cs 2 ((rN [.any,.any] (.vec 0 r7.length 6) [(bV (fl Gj.enc r7) 77)])::(cs 2 []))) (fun γ=>Gb (ea56 c_0.Devices r7 γ.2)) <|
  .bd (G6 4294967296 c_0.Classes) fun r9=>.run (cs 2 ((rN [.any] (.vec 0 r9.length 3) [(bV (fl Gk.enc r9) 172)])::(cs 2 []))) (fun γ=>Gb (cl60 c_0.Classes r9 γ.2)) <|
  .bd (G6 4294967296 c_0.Tags) fun r11=>.run (cs 2 ((rN [.any] (.vec 0 r11.length 3) [(bV (fl Gs.enc r11) 175)])::(cs 2 []))) (fun γ=>Gb (cl61 c_0.Tags r11 γ.2)) <|
  .bd (YT HF c_0.Tariffs) fun r13=>.run (cs 2 ((rN [.any,.any] (.vec 0 r13.length 4) [(bV (fl Gd.enc r13) 83)])::(cs 2 []))) (fun γ=>Gb (ea62 c_0.Tariffs r13 γ.2)) <|
  .bd (G6 8796093022000 c_0.Scale.Up) fun r15=>.run (cs 3 ((rN [.any] (.vec 0 r15.length 1) [(bV (fl GU r15) 3)])::(cs 3 []))) (fun γ=>Gb (Gwb c_0.Scale.Up r15 γ.2)) <|
  .bd (G6 8796093022000 c_0.Scale.Down) fun r17=>.run (cs 3 ((rN [.any] (.vec 0 r17.length 1) [(bV (fl GU r17) 3)])::(cs 3 []))) (fun γ=>Gb (Gwb c_0.Scale.Down r17 γ.2)) <|
  .bd (G6 8796093022000 c_0.Scale.Parts) fun r19=>.run (cs 3 ((rN [.any] (.vec 0 r19.length 1) [(bV (fl GU r19) 3)])::(cs 3 []))) (fun γ=>Gb (Gwb c_0.Scale.Parts r19 γ.2)) <|
  .bd (G6 4294967296 c_0.Discounts) fun r21=>.run (cs 2 ((rN [.any] (.vec 0 r21.length 10) [(bV (fl Gi.enc r21) 187)])::(cs 2 []))) (fun γ=>Gb (cl67 c_0.Discounts r21 γ.2)) <|
  .bd (G6 4294967296 c_0.Caps) fun r23=>.run (cs 2 ((rN [.any] (.vec 0 r23.length 4) [(bV (fl G9.enc r23) 127)])::(cs 2 []))) (fun γ=>Gb (cl68 c_0.Caps r23 γ.2)) <|
  .bd (YT HG c_0.Zones) fun r25=>.run (cs 2 ((rN [.any,.any] (.vec 0 r25.length 7) [(bV (fl Gg.enc r25) 87)])::(cs 2 []))) (fun γ=>Gb (ea69 c_0.Zones r25 γ.2)) <|
  .bd (YT HH c_0.Permits) fun r27=>.run (cs 2 ((rN [.any,.any] (.vec 0 r27.length 7) [(bV (fl Gw.enc r27) 90)])::(cs 2 []))) (fun γ=>Gb (ea73 c_0.Permits r27 γ.2)) <|
  .bd (YT HI c_0.Accounts) fun r29=>.run (cs 2 ((rN [.any,.any] (.vec 0 r29.length 9) [(bV (fl Gc.enc r29) 95)])::(cs 2 []))) (fun γ=>Gb (ea76 c_0.Accounts r29 γ.2)) <|
  .bd (G6 8796093022000 c_0.Reliefs) fun r31=>.run (cs 2 ((rN [.any] (.vec 0 r31.length 2) [(bV (fl GA.enc r31) 205)])::(cs 2 []))) (fun γ=>Gb (cl79 c_0.Reliefs r31 γ.2)) <|
  .bd (G6 8796093022000 c_0.Holidays) fun r33=>.run (cs 2 ((rN [.any] (.vec 0 r33.length 1) [(bV (fl GU r33) 3)])::(cs 2 []))) (fun γ=>Gb (Gwb c_0.Holidays r33 γ.2)) <|
  .bd (G6 8796093022000 c_0.Law.Days) fun r35=>.run (cs 3 ((rN [.any] (.vec 0 r35.length 1) [(bV (fl GU r35) 3)])::(cs 3 []))) (fun γ=>Gb (Gwb c_0.Law.Days r35 γ.2)) <|
  .bd (G6 8796093022000 c_0.Law.Fees) fun r37=>.run (cs 3 ((rN [.any] (.vec 0 r37.length 1) [(bV (fl GU r37) 3)])::(cs 3 []))) (fun γ=>Gb (Gwb c_0.Law.Fees r37 γ.2)) <|
  .bd (G6 4294967296 c_0.Keeping) fun r39=>.run (cs 2 ((rN [.any] (.vec 0 r39.length 3) [(bV (fl Gq.enc r39) 208)])::(cs 4 [.tr (.frz [.c 1 0] (fl Gr.enc r1) r1.length),.tr (.frz [.c 1 1] (fl GW.enc r3) r3.length),.tr (.frz [.c 1 2] (fl Gm.enc r5) r5.length),.tr (.frz [.c 1 3] (fl Gj.enc r7) r7.length),.tr (.frz [.c 1 4] (fl Gk.enc r9) r9.length),.tr (.frz [.c 1 5] (fl Gs.enc r11) r11.length),.tr (.frz [.c 1 8] (fl Gd.enc r13) r13.length),.tr (.frz [.c 1 10] (fl GU r15) r15.length),.tr (.frz [.c 1 11] (fl GU r17) r17.length),.tr (.frz [.c 1 12] (fl GU r19) r19.length),.tr (.frz [.c 1 13] (fl Gi.enc r21) r21.length),.tr (.frz [.c 1 14] (fl G9.enc r23) r23.length),.tr (.frz [.c 1 15] (fl Gg.enc r25) r25.length),.tr (.frz [.c 1 16] (fl Gw.enc r27) r27.length),.tr (.frz [.c 1 17] (fl Gc.enc r29) r29.length),.tr (.frz [.c 1 18] (fl GA.enc r31) r31.length),.tr (.frz [.c 1 19] (fl GU r33) r33.length),.tr (.frz [.c 1 20] (fl GU r35) r35.length),.tr (.frz [.c 1 21] (fl GU r37) r37.length),.tr (.frz [.c 1 23] (fl Gq.enc r39) r39.length)]))) (fun γ=>k2 (cl80 c_0.Keeping r39 γ.2) (k2 (⟨rfl,rfl,rfl,(GZ (f:=Gr.enc) (z:=3) (fun _=>rfl) _)⟩:2=2∧(fl Gr.enc r1)=(fl Gr.enc r1)∧r1.length=r1.length∧List.length (fl Gr.enc r1)=(r1.length*3)) (k2 (⟨rfl,rfl,rfl,(GZ (f:=GW.enc) (z:=4) (fun _=>rfl) _)⟩:3=3∧(fl GW.enc r3)=(fl GW.enc r3)∧r3.length=r3.length∧List.length (fl GW.enc r3)=(r3.length*4)) (k2 (⟨rfl,rfl,rfl,(GZ (f:=Gm.enc) (z:=3) (fun _=>rfl) _)⟩:4=4∧(fl Gm.enc r5)=(fl Gm.enc r5)∧r5.length=r5.length∧List.length (fl Gm.enc r5)=(r5.length*3)) (k2 (⟨rfl,rfl,rfl,(GZ (f:=Gj.enc) (z:=6) (fun _=>rfl) _)⟩:5=5∧(fl Gj.enc r7)=(fl Gj.enc r7)∧r7.length=r7.length∧List.length (fl Gj.enc r7)=(r7.length*6)) (k2 (⟨rfl,rfl,rfl,(GZ (f:=Gk.enc) (z:=3) (fun _=>rfl) _)⟩:6=6∧(fl Gk.enc r9)=(fl Gk.enc r9)∧r9.length=r9.length∧List.length (fl Gk.enc r9)=(r9.length*3)) (k2 (⟨rfl,rfl,rfl,(GZ (f:=Gs.enc) (z:=3) (fun _=>rfl) _)⟩:7=7∧(fl Gs.enc r11)=(fl Gs.enc r11)∧r11.length=r11.length∧List.length (fl Gs.enc r11)=(r11.length*3)) (k2 (⟨rfl,rfl,rfl,(GZ (f:=Gd.enc) (z:=4) (fun _=>rfl) _)⟩:8=8∧(fl Gd.enc r13)=(fl Gd.enc r13)∧r13.length=r13.length∧List.length (fl Gd.enc r13)=(r13.length*4)) (k2 (⟨rfl,rfl,rfl,(Rt (f:=GU) (fun _=>rfl) _)⟩:9=9∧(fl GU r15)=(fl GU r15)∧r15.length=r15.length∧List.length (fl GU r15)=r15.length) (k2 (⟨rfl,rfl,rfl,(Rt (f:=GU) (fun _=>rfl) _)⟩:10=10∧(fl GU r17)=(fl GU r17)∧r17.length=r17.length∧List.length (fl GU r17)=r17.length) (k2 (⟨rfl,rfl,rfl,(Rt (f:=GU) (fun _=>rfl) _)⟩:11=11∧(fl GU r19)=(fl GU r19)∧r19.length=r19.length∧List.length (fl GU r19)=r19.length) (k2 (⟨rfl,rfl,rfl,(GZ (f:=Gi.enc) (z:=10) (fun _=>rfl) _)⟩:12=12∧(fl Gi.enc r21)=(fl Gi.enc r21)∧r21.length=r21.length∧List.length (fl Gi.enc r21)=(r21.length*10)) (k2 (⟨rfl,rfl,rfl,(GZ (f:=G9.enc) (z:=4) (fun _=>rfl) _)⟩:13=13∧(fl G9.enc r23)=(fl G9.enc r23)∧r23.length=r23.length∧List.length (fl G9.enc r23)=(r23.length*4)) (k2 (⟨rfl,rfl,rfl,(GZ (f:=Gg.enc) (z:=7) (fun _=>rfl) _)⟩:14=14∧(fl Gg.enc r25)=(fl Gg.enc r25)∧r25.length=r25.length∧List.length (fl Gg.enc r25)=(r25.length*7)) (k2 (⟨rfl,rfl,rfl,(GZ (f:=Gw.enc) (z:=7) (fun _=>rfl) _)⟩:15=15∧(fl Gw.enc r27)=(fl Gw.enc r27)∧r27.length=r27.length∧List.length (fl Gw.enc r27)=(r27.length*7)) (k2 (⟨rfl,rfl,rfl,(GZ (f:=Gc.enc) (z:=9) (fun _=>rfl) _)⟩:16=16∧(fl Gc.enc r29)=(fl Gc.enc r29)∧r29.length=r29.length∧List.length (fl Gc.enc r29)=(r29.length*9)) (k2 (⟨rfl,rfl,rfl,(GZ (f:=GA.enc) (z:=2) (fun _=>rfl) _)⟩:17=17∧(fl GA.enc r31)=(fl GA.enc r31)∧r31.length=r31.length∧List.length (fl GA.enc r31)=(r31.length*2)) (k2 (⟨rfl,rfl,rfl,(Rt (f:=GU) (fun _=>rfl) _)⟩:18=18∧(fl GU r33)=(fl GU r33)∧r33.length=r33.length∧List.length (fl GU r33)=r33.length) (k2 (⟨rfl,rfl,rfl,(Rt (f:=GU) (fun _=>rfl) _)⟩:19=19∧(fl GU r35)=(fl GU r35)∧r35.length=r35.length∧List.length (fl GU r35)=r35.length) (k2 (⟨rfl,rfl,rfl,(Rt (f:=GU) (fun _=>rfl) _)⟩:20=20∧(fl GU r37)=(fl GU r37)∧r37.length=r37.length∧List.length (fl GU r37)=r37.length) (Gb (⟨rfl,rfl,rfl,(GZ (f:=Gq.enc) (z:=3) (fun _=>rfl) _)⟩:21=21∧(fl Gq.enc r39)=(fl Gq.enc r39)∧r39.length=r39.length∧List.length (fl Gq.enc r39)=(r39.length*3))))))))))))))))))))))) <|
  .leaf (⟨(⟨(⟨r1,r3⟩:Gf),r5⟩:Ga),r7,r9,r11,c_0.Gap,c_0.Weak,r13,(⟨c_0.Scale.Period,r15,r17,r19⟩:GI),r21,r23,r25,r27,r29,r31,r33,(⟨r35,r37,c_0.Law.Limit⟩:GO),r39,c_0.Agency⟩:Gh) []
def M7 (c_0:Gh):Option Gh:=(Rj c_0).den
theorem Gfe (c_0:Gh) (r:Gh) (h:M7 c_0=some r):RT 18 [.agg (Gh.enc c_0)] (.agg (Gh.enc r)) []:=
 HA.of_ht 400 (Rj c_0) (fun (r:Gh)=>.agg (Gh.enc r)) (fun (r:Gh)=>[]) (by kernel_rfl) h
def Gfd (c_0:Gh):HT (G2×Int) True:=.run (cs 3 []) (fun _=>Hg) <|
  .bd (Gcj c_0) fun r1=>.run (oc::(rN [.any] (jI r1) [])::(cs 2 [oa])) (fun γ=>Gb (GnD c_0 r1 γ.2)) <|
  .sp (r1=(0:Int))
  (.run [bf] (fun γ=>Gb (Gx (Gu γ.2))) <|
  .bd (M7 c_0) fun r4=>.run (oc::(rN [.any] (.agg (Gh.enc r4)) [])::(cs 3 [])) (fun γ=>Gb (Gfe c_0 r4 γ.2)) <|
  .leaf ((⟨r4,[],[],[],0,(⟨[],[],[],[],[],[]⟩:Rc),(⟨(⟨[]⟩:Ra),[]⟩:U6),[],0⟩:G2),0) [])
  (.run (bt::(cs 4 [])) (fun γ=>Gb (Gy (Gz γ.2))) <|
  .leaf ((⟨(⟨(⟨(⟨[],[]⟩:Gf),[]⟩:Ga),[],[],[],0,0,[],(⟨0,[],[],[]⟩:GI),[],[],[],[],[],[],[],(⟨[],[],0⟩:GO),[],([]:List UInt8)⟩:Gh),[],[],[],0,(⟨[],[],[],[],[],[]⟩:Rc),(⟨(⟨[]⟩:Ra),[]⟩:U6),[],0⟩:G2),r1) [])
def Gfc (c_0:Gh):Option (G2×Int):=(Gfd c_0).den
theorem Goy (c_0:Gh) (r:(G2×Int)) (h:Gfc c_0=some r):RT 6 [.agg (Gh.enc c_0)] (.tup [.agg (G2.enc r.1),jI r.2]) []:=
 HA.of_ht 400 (Gfd c_0) (fun (r:(G2×Int))=>.tup [.agg (G2.enc r.1),jI r.2]) (fun (r:(G2×Int))=>[]) (by kernel_rfl) h
end
end Go.Proofs.YtdifanfcaemokaaGreatDoor.Av
