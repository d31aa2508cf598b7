import Derived.Test.YtnlaiahcemckkaaGreatDoorHPEa
import Derived.Lib.ItoaNum
import Derived.Test.YtnlaiahcemckkaaGreatDoorProg
import Derived.KernelRfl
import Derived.Tactics
open Prod (fst)
open Int (tdiv tmod)
set_option linter.unusedVariables false
set_option linter.unusedSimpArgs false
namespace Go.Proofs.YtnlaiahcemckkaaGreatDoor.Av
noncomputable section
open Go.RowKit
open Go.ChangeMaps (setBlock)
variable {P:Program} {G:Nat→AV} {μ μ':Nat→Option HI} {ro ro':Nat→Prop} {w w':World}
def ZX (P:Program) (G:Nat→AV) (n:Nat) (c:Code) (s:St) (R:Hm→St→Prop):Prop:=
 ∀ μ ro a w,G9 G μ ro w s a→c.wp P (fun e' a' w'=>∃ e s',R e s'∧MI n G μ ro w e s' e' a' w') a w
theorem ZX.mono {n:Nat} {c:Code} {s:St} {R R':Hm→St→Prop} (h:ZX P G n c s R) (hR:∀ e s',R e s'→R' e s'):ZX P G n c s R':=fun μ ro a w hs=>
 wp_mono (h μ ro a w hs) fun _ _ _ ⟨e,s',h1,h2⟩=>⟨e,s',hR _ _ h1,h2⟩
theorem MI.sub {n:Nat} {e:Hm} {s1 s':St} {e':Exit} {a':Act} (he:∀ v,e≠.panic v) (h:MI n G μ ro w e s1 e' a' w') (hsub:R7 n s1 s'):MI n G μ ro w e s' e' a' w':=by
 obtain ⟨μ',ro',k1,k2,k3⟩:=h
 obtain ⟨μ0,ro0,h1,h2,h4,h5,h3⟩:=hsub G μ' ro' w' a' k3
 refine ⟨μ0,ro0,k1.subr h1 h2 h4 h5,?_,h3⟩
 cases e with
 | panic v=>exact absurd rfl (he v)
 | _=>cases e' <;> first | exact k2 | exact k2.elim
theorem ZX.one {n:Nat} {c:Code} {s s':St} {e:Hm} {R:Hm→St→Prop} (h:ZX P G n c s R) (he:∀ v,e≠.panic v) (hR:∀ e1 s1,R e1 s1→e1=e∧R7 n s1 s'):GI P G n c s e s':=fun μ ro a w hs=>
 wp_mono (h μ ro a w hs) fun e' a' w' ⟨e1,s1,h1,h2⟩=>by
  obtain ⟨rfl,h3⟩:=hR _ _ h1
  exact h2.sub he h3
theorem ZX.seq {n:Nat} {c d:Code} {s:St} {R T:Hm→St→Prop} (h:ZX P G n c s R) (k:∀ s1,R .normal s1→ZX P G n d s1 T) (o:∀ e s1,e≠.normal→R e s1→T e s1):ZX P G n (.seq c d) s T:=fun μ ro a w hs=>
 wp_seq (wp_mono (h μ ro a w hs) fun e' a1 w1 ⟨e,s1,h1,h2⟩=>by
  by_cases he:e=.normal
  ·subst he
   obtain ⟨μ1,ro1,q1,q3,q4⟩:=h2
   cases e' <;> simp only [Ve] at q3
   exact wp_mono (k s1 h1 μ1 ro1 a1 w1 q4) fun _ _ _ ⟨e2,s2,g1,g2⟩=>⟨e2,s2,g1,MI.trans q1 g2⟩
  ·have h3:=o e s1 he h1
   obtain ⟨μ1,ro1,q1,q3,q4⟩:=h2
   cases e' <;> first
    | exact ⟨e,s1,h3,μ1,ro1,q1,q3,q4⟩
    | (cases e <;> simp only [Ve] at q3; exact absurd rfl he))
theorem ZX.pre {n:Nat} {c:Code} {s s0:St} {R:Hm→St→Prop} (hsub:R7 n s s0) (h:ZX P G n c s0 R):ZX P G n c s R:=fun μ ro a w hst=>by
 obtain ⟨μ0,ro0,h1,h2,h4,h5,h3⟩:=hsub G μ ro w a hst
 refine wp_mono (h μ0 ro0 a w h3) fun e' a' w' ⟨e,s',g,μ',ro',k1,k2,k3⟩=>⟨e,s',g,μ',ro',⟨h1.trans k1.ag,fun b hb=>k1.up b (h4 b hb),fun b hb=>?_,(k1.fr.weaken h4).pre h2⟩,k2,k3⟩
 rcases k1.nw b hb with h | h | ⟨i,l,q1,q2⟩
 ·exact (h5 b h).imp_right .inr
 ·exact .inr (.inl h)
 ·obtain ⟨j,m,q3,q4⟩:=h2 i l q1
  exact .inr (.inr ⟨j,m,q3,q4.trans q2⟩)
theorem ZX.loop {n:Nat} {c:Code} {I:Nat→St→Prop} {R:Hm→St→Prop}
  (h:∀ m s,I m s→ZX P G n c s fun e s'=>(e=.normal∧∃ m',m'<m∧I m' s')∨(e≠.normal∧R e s')):∀ {m:Nat} {s:St},I m s→ZX P G n (.loop c) s R:=by
 intro m
 induction m using Nat.strongRecOn with
 | ind m ih=>
  intro s hI μ ro a w hs
  refine Gax (fun _ _ _ ⟨_,_,_,hp⟩=>MI.noGoto hp) (fun _ _ ⟨_,_,_,hp⟩=>MI.noOut hp) (wp_mono (h m s hI μ ro a w hs) fun e' a1 w1 ⟨e,s1,h1,h2⟩=>?_)
  rcases h1 with ⟨rfl,m',hlt,hI'⟩ | ⟨hne,hR⟩
  ·obtain ⟨μ1,ro1,q1,q3,q4⟩:=h2
   cases e' <;> simp only [Ve] at q3
   exact wp_mono (ih m' hlt hI' μ1 ro1 a1 w1 q4) fun _ _ _ ⟨e2,s2,g1,g2⟩=>⟨e2,s2,g1,MI.trans q1 g2⟩
  ·obtain ⟨μ1,ro1,q1,q3,q4⟩:=h2
   cases e' <;> first
    | exact ⟨e,s1,hR,μ1,ro1,q1,q3,q4⟩
    | (cases e <;> simp only [Ve] at q3; exact absurd rfl hne)
theorem K5.get {kd:KK}:∀ {es:List (AV×AV)} {ms:List MapEntry} {x:Nat} {e:MapEntry},K5 kd μ ro w es ms→ms[x]?=some e→∃ k v,es[x]?=some (k,v)
 | _,_,x,_,.nil,h=>by simp at h
 | _,_,0,_,.cons (k:=k) (v:=v) _ _ _,_=>⟨k,v,rfl⟩
 | _,_,x+1,_,.cons _ _ he,h=>by
  obtain ⟨k,v,q⟩:=he.get (x:=x) (by simpa using h)
  exact ⟨k,v,by simpa using q⟩
end
set_option linter.unusedSectionVars false
noncomputable section
section
variable {α K:Type} [DecidableEq K]
def HU (κ:α→K):List α→α→List α
 | [],x=>[x]
 | y::l,x=>if κ y=κ x then x::l else y::HU κ l x
def V0 (κ:α→K):List α→K→Option α
 | [],_=>none
 | y::l,k=>if κ y=k then some y else V0 κ l k
variable {κ:α→K}
theorem Xl {e:α→AV×AV} (he:∀ x y,Kx (e x).1 (e y).1=decide (κ x=κ y)) (l:List α) (x:α):YA (l.map e) (e x).1 (e x).2=(HU κ l x).map e:=by
 induction l with
 | nil=>rfl
 | cons z l ih=>
  rw [List.map_cons]
  unfold HU
  show (match Kx (e z).1 (e x).1 with | true=>((e z).1,(e x).2)::l.map e | false=>((e z).1,(e z).2)::YA (l.map e) (e x).1 (e x).2)=_
  rw [he]
  by_cases h:κ z=κ x
  ·have h1:(e z).1=(e x).1:=GnR (by rw [he]; simp [h])
   rw [if_pos h,dT h,h1]; rfl
  ·rw [if_neg h,dF h,ih]; rfl
theorem GqA {e:α→AV×AV} (he:∀ x y,Kx (e x).1 (e y).1=decide (κ x=κ y)) (l:List α) {k:K} {a:AV} (ha:∀ x,Kx (e x).1 a=decide (κ x=k)):Ja (l.map e) a=(V0 κ l k).map fun x=>(e x).2:=by
 induction l with
 | nil=>rfl
 | cons z l ih=>
  rw [List.map_cons]
  unfold V0
  show (match Kx (e z).1 a with | true=>some (e z).2 | false=>Ja (l.map e) a)=_
  rw [ha]
  by_cases h:κ z=k
  ·rw [if_pos h,dT h]; rfl
  ·rw [if_neg h,dF h,ih]
theorem K2 {e:α→AV×AV} (he:∀ x y,Kx (e x).1 (e y).1=decide (κ x=κ y)) {l:List α} {k:K} {a:AV} (ha:∀ x,Kx (e x).1 a=decide (κ x=k)) {q:α} (h:V0 κ l k=some q):Ja (l.map e) a=some (e q).2:=by
 rw [GqA he l ha,h]; rfl
theorem VR {e:α→AV×AV} (he:∀ x y,Kx (e x).1 (e y).1=decide (κ x=κ y)) {l:List α} {k:K} {a:AV} (ha:∀ x,Kx (e x).1 a=decide (κ x=k)) (h:V0 κ l k=none):Ja (l.map e) a=none:=by
 rw [GqA he l ha,h]; rfl
theorem GgI {l:List α} {k:K} (h:¬ (V0 κ l k).isSome=true):V0 κ l k=none:=by
 cases hh:V0 κ l k with
 | none=>rfl
 | some x=>rw [hh] at h; exact absurd rfl h
end
abbrev bM (kd:KK) (es:List (AV×AV)):G6:={ c:=[],e:=0,ext:=false,fz:=0,pl:=false,it:=some (.map kd es) }
variable {P:Program} {G:Nat→AV} {μ μ':Nat→Option HI} {ro ro':Nat→Prop} {w w':World}
theorem GS.show {h:Hp} {id:Nat} {kd:KK} {es:List (AV×AV)} (hh:GS μ ro h w) (hk:h.m.get id=some (.map kd es)):
  ∃ m es' ms cl,es.Perm es'∧es'.length=ms.length∧(ms.map (·.born)).Nodup∧GS μ ro (h.set id (.rm m kd es' ms cl)) w:=by
 obtain ⟨b,hb,hob⟩:∃ b,μ id=some b∧Z0 μ ro w b kd es:=by
  rcases hh.obs id _ hk with h | ⟨_,h,_⟩
  ·exact h
  ·exact h.elim
 obtain ⟨m,es',ms,cl,h1,h2⟩:=hob.show
 refine ⟨m,es',ms,cl,h1,h2.2.2.1.length.symm,h2.2.2.2.2.1,hh.weak rfl fun i k1 hi=>?_⟩
 simp only [Hp.set,Tr.get_put] at hi
 by_cases e:i=id
 ·subst e
  simp only [if_true,sJ] at hi
  subst hi
  refine ⟨_,hk,fun c hc hr=>?_,fun hb=>hb.elim⟩
  rw [hb] at hc; cases hc
  exact h2
 ·rw [if_neg e] at hi
  exact ⟨_,hi,fun _ _ h=>h,fun h=>h⟩
end
noncomputable section
open Go.RowKit
variable {P:Program} {G:Nat→AV}
def Gjo (m:Tr Ob) (r:List Nat):List Nat→List G6→Bool
 | i::l,b::bs=>(match m.get i with | some k=>GvU k (MA r b).ob | none=>false)&&Gjo m r l bs
 | [],[]=>true
 | _,_=>false
theorem Gfh {m:Tr Ob} {r:List Nat}:∀ {l:List Nat} {bs:List G6},Gjo m r l bs=true→R4 m r l bs
 | [],[],_=>trivial
 | i::l,b::bs,h=>by
  simp only [Gjo,Bool.and_eq_true] at h
  refine ⟨?_,Gfh h.2⟩
  have h1:=h.1
  split at h1
  ·rename_i k hk
   rw [hk,Gtl h1]
  ·cases h1
 | [],_::_,h=>by cases h
 | _::_,[],h=>by cases h
structure Ent (P:Program) (G:Nat→AV) where
 f:FuncId
 nx:Nat
 ρ:List Nat
 m:Nat
 args:List AV
 blks:List G6
 r:AV
 blks':List G6
 ok:JZ P G m f args blks r blks'
def Ent.try (e:Ent P G) (f:FuncId) (args:List AV) (h:Hp):Bool:=
 Nat.beq f e.f&&Nat.beq h.nx e.nx&&eqL (eqV 12) args (e.args.map (ren e.ρ 4))&&Gjo h.m e.ρ e.ρ e.blks&&(GlG e.m e.ρ e.args e.blks e.r e.blks').ok args h
def GvO:List (Ent P G)→FuncId→List AV→Hp→Option (CO×Hp)
 | [],_,_,_=>none
 | e::l,f,args,h=>match e.try f args h with | true=>some ((GlG e.m e.ρ e.args e.blks e.r e.blks').res args h) | false=>GvO l f args h
theorem Gtd:∀ (l:List (Ent P G)) (f:FuncId) (args:List AV) (h:Hp) (r:CO×Hp),GvO l f args h=some r→Hl P G f args h r.1 r.2
 | [],_,_,_,_,h=>by cases h
 | e::l,f,args,h,r,hr=>by
  unfold GvO at hr
  split at hr
  ·rename_i ht
   simp only [sJ] at hr
   subst hr
   simp only [Ent.try,Bool.and_eq_true] at ht
   obtain ⟨⟨⟨⟨h1,h2⟩,h3⟩,h4⟩,h5⟩:=ht
   have hf:f=e.f:=Nat.eq_of_beq_eq_true h1
   subst hf
   exact Gvs e.ρ e.ok args h h5 ⟨GcE (Z4 12) h3,Gfh h4⟩
  ·exact Gtd l f args h r hr
def tab (l:List (Ent P G)):Tab P G:=⟨GvO l,Gtd l⟩
def runB (ρ:List Nat) (m:Nat) (r:AV) (blks':List G6) (n0:Nat) (x:W (CO×Hp×List CH)):Bool:=
 match x with
 | some ((.ret v,h,[]),[])=>eqV 12 v (ren ρ 4 r)&&Gjo h.m ρ ρ blks'&&(okR ρ r blks'&&idM ρ m&&Nat.ble m n0)
 | _=>false
theorem JZ.of_run (T:Tab P G) (m fuel:Nat) (ρ:List Nat) {f:FuncId} {args:List AV} {blks:List G6} {r:AV} {blks':List G6}
  (he:runB ρ m r blks' blks.length (Ge0 P (evT P G T fuel) f args (Um blks ⟨.e,0⟩) [])=true):JZ P G m f args blks r blks':=by
 intro μ ro w vs ha hh hg
 unfold runB at he
 split at he
 ·rename_i v h' hr
  simp only [Bool.and_eq_true] at he
  obtain ⟨⟨h0,h1⟩,⟨⟨hc,hid⟩,hm⟩⟩:=he
  have hv:=Z4 12 _ _ h0
  subst hv
  have hb:R4 h'.m ρ ρ blks':=Gfh h1
  simp only [okR,Bool.and_eq_true] at hc
  obtain ⟨⟨hc1,hc2⟩,hc3⟩:=hc
  have hm:=nB hm
  have hid:=GmM hid
  have hd:=GoK P G T fuel f args (Um blks ⟨.e,0⟩) [] _ _ hr trivial μ ro w vs ha hh hg
  have hnx:(Um blks ⟨.e,0⟩).nx=blks.length:=by
   have:=(Km blks ⟨.e,0⟩ 0).1
   simp only [Nat.zero_add] at this
   exact this
  refine hd.mono ?_
  rintro e w1 ⟨μ',ro',hup,hco,hh1⟩
  refine ⟨Y9 ρ μ',ro',⟨fun i hi=>?_,hup.up,hup.nw,⟨hup.fr.os,hup.fr.tape,hup.fr.output,hup.fr.size,hup.fr.block,hup.fr.rest,fun i l hi=>?_⟩⟩,?_,hh1.ren hb hc1 hc2 (fun i hi=>if_pos hi) (fun i hi=>if_neg (by omega))⟩
  ·unfold Y9
   rw [if_pos (hid i hi).1,(hid i hi).2]
   exact hup.ag i (by rw [hnx]; omega)
  ·unfold Y9 at hi
   split at hi
   ·exact hup.fr.new _ l hi
   ·cases hi
  ·cases e <;> simp only [GfS] at hco ⊢
   exact RY (fun i hi=>if_pos hi) 4 hc3 hco
 ·cases he
theorem G5.of_true (T:Tab P G) (fuel:Nat) {f:FuncId} (he:yes (Ge0 P (evT P G T fuel) f [] ⟨.e,0⟩ [])=true):G5 P G f [] (.bool true) []:=by
 unfold yes at he
 split at he
 ·rename_i h' hr
  intro ro w vs hro ha hg
  have hd:=GoK P G T fuel f [] ⟨.e,0⟩ [] _ _ hr trivial (fun _=>none) ro w vs ha.up ⟨fun i k h=>(by simp [Tr.get] at h),fun i j k l b c h=>(by simp [Tr.get] at h),fun i k b h=>(by simp [Tr.get] at h),fun i b h=>(by cases h),hro,fun i hi=>rfl⟩ hg
  refine hd.mono ?_
  rintro e w1 ⟨μ',ro',hup,hco,hh1⟩
  refine ⟨fun _=>none,ro',⟨fun i hi=>rfl,hup.up,hup.nw,⟨hup.fr.os,hup.fr.tape,hup.fr.output,hup.fr.size,hup.fr.block,hup.fr.rest,fun i l hi=>(by cases hi)⟩⟩,?_,?_⟩
  ·cases e <;> simp only [GfS] at hco ⊢
   cases hco; exact .bool
  ·exact ⟨fun i k h=>(by simp [Um,Tr.get] at h),fun i j k l b c h=>(by simp [Um,Tr.get] at h),fun i k b h=>(by simp [Um,Tr.get] at h),fun i b h=>(by cases h),hh1.old,fun i hi=>rfl⟩
 ·cases he
end
noncomputable section
open Go Go.Proofs
def GT:Nat→AV:=fun g=>if g=1 then .rop (Go.Lib.pow10Tab.map (AV.int .u64)) 0 else if g=6 then .rop [.int .i64 31,.int .i64 28,.int .i64 31,.int .i64 30,.int .i64 31,.int .i64 30,.int .i64 31,.int .i64 31,.int .i64 30,.int .i64 31,.int .i64 30,.int .i64 31] 0 else .any
abbrev xi (n:Int):AV:=.int .i64 n
abbrev xb (c:List AV) (e:TypeId) (pl:Bool):G6:=⟨c,e,false,0,pl,false,none⟩
abbrev xe (c:List AV) (e:TypeId) (pl:Bool):G6:=⟨c,e,true,0,pl,false,none⟩
end
set_option maxHeartbeats 4000000
set_option maxRecDepth 100000
noncomputable section
open Go Go.Proofs
structure Gq where
 Name:(List UInt8)
 Kind:Int
 System:(List UInt8)
def Gq.enc (x:Gq):List AV:=[.str x.Name,.int .i64 x.Kind,.str x.System]
structure G1 where
 From:(List UInt8)
 To:(List UInt8)
 Min:Int
 Max:Int
def G1.enc (x:G1):List AV:=[.str x.From,.str x.To,.int .i64 x.Min,.int .i64 x.Max]
structure Gc where
 Points:(List Gq)
 Links:(List G1)
def Gc.enc (x:Gc):List AV:=[.lst (fl Gq.enc x.Points) x.Points.length,.lst (fl G1.enc x.Links) x.Links.length]
def Ho (p:(List UInt8)×Bool):AV×AV:=(.str p.1,.bool p.2)
theorem Hx:∀ (x y:(List UInt8)×Bool),Kx (Ho x).1 (Ho y).1=decide (fst x=fst y):=by intro x y; simp [Ho,Kx]
theorem KD (k:(List UInt8)):∀ x:(List UInt8)×Bool,Kx (Ho x).1 (.str k)=decide (fst x=k):=fun x=>Hx x (k,(false:Bool))
structure GZ where
 uf0:(List UInt8)
 uf1:(List UInt8)
def GZ.enc (x:GZ):List AV:=[.str x.uf0,.str x.uf1]
def Hn (p:GZ×Bool):AV×AV:=(.agg [.str p.1.uf0,.str p.1.uf1],.bool p.2)
theorem GZ.ext_iff {x y:GZ}:x=y↔x.uf0=y.uf0∧x.uf1=y.uf1:=by
 cases x; cases y; simp
noncomputable instance:DecidableEq GZ:=fun _ _=>Classical.propDecidable _
theorem KJ:∀ (x y:GZ×Bool),Kx (Hn x).1 (Hn y).1=decide (fst x=fst y):=by
 intro x y
 rw [Bool.eq_iff_iff]
 simp [Hn,GZ.enc,Kx,GdM,GiX,GZ.ext_iff]
theorem GdK (k:GZ):∀ x:GZ×Bool,Kx (Hn x).1 (.agg [.str k.uf0,.str k.uf1])=decide (fst x=k):=fun x=>KJ x (k,(false:Bool))
structure Gi where
 Name:(List UInt8)
 Closed:Bool
 Most:Int
def Gi.enc (x:Gi):List AV:=[.str x.Name,.bool x.Closed,.int .i64 x.Most]
structure Ga where
 Net:Gc
 Systems:(List Gi)
def Ga.enc (x:Ga):List AV:=[.lst (fl Gq.enc x.Net.Points) x.Net.Points.length,.lst (fl G1.enc x.Net.Links) x.Net.Links.length,.lst (fl Gi.enc x.Systems) x.Systems.length]
structure GD where
 From:Int
 Delta:Int
def GD.enc (x:GD):List AV:=[.int .i64 x.From,.int .i64 x.Delta]
structure Gn where
 From:Int
 To:Int
def Gn.enc (x:Gn):List AV:=[.int .i64 x.From,.int .i64 x.To]
structure Gl where
 Name:(List UInt8)
 Point:(List UInt8)
 Kind:Int
 Lane:Int
 Offsets:(List GD)
 Down:(List Gn)
def Gl.enc (x:Gl):List AV:=[.str x.Name,.str x.Point,.int .i64 x.Kind,.int .i64 x.Lane,.lst (fl GD.enc x.Offsets) x.Offsets.length,.lst (fl Gn.enc x.Down) x.Down.length]
structure Gj where
 From:Int
 To:Int
 Class:Int
def Gj.enc (x:Gj):List AV:=[.int .i64 x.From,.int .i64 x.To,.int .i64 x.Class]
structure Gy where
 Tag:(List UInt8)
 From:Int
 State:Int
def Gy.enc (x:Gy):List AV:=[.str x.Tag,.int .i64 x.From,.int .i64 x.State]
structure Gz where
 From:(List UInt8)
 To:(List UInt8)
 Class:Int
 Band:(List UInt8)
 Cents:Int
def Gz.enc (x:Gz):List AV:=[.str x.From,.str x.To,.int .i64 x.Class,.str x.Band,.int .i64 x.Cents]
structure Gm where
 Days:Int
 From:Int
 To:Int
def Gm.enc (x:Gm):List AV:=[.int .i64 x.Days,.int .i64 x.From,.int .i64 x.To]
structure GV where
 Name:(List UInt8)
 Window:Gm
def GV.enc (x:GV):List AV:=[.str x.Name,.int .i64 x.Window.Days,.int .i64 x.Window.From,.int .i64 x.Window.To]
structure Gf where
 Valid:Gn
 Bands:(List GV)
 Rates:(List Gz)
def Gf.enc (x:Gf):List AV:=[.int .i64 x.Valid.From,.int .i64 x.Valid.To,.lst (fl GV.enc x.Bands) x.Bands.length,.lst (fl Gz.enc x.Rates) x.Rates.length]
structure GJ where
 Period:Int
 Up:(List Int)
 Down:(List Int)
 Parts:(List Int)
def GJ.enc (x:GJ):List AV:=[.int .i64 x.Period,.lst (fl Hc x.Up) x.Up.length,.lst (fl Hc x.Down) x.Down.length,.lst (fl Hc x.Parts) x.Parts.length]
structure Gh where
 Name:(List UInt8)
 Kind:Int
 Amount:Int
 Group:(List UInt8)
 System:(List UInt8)
 Class:Int
 Window:Gm
 Least:Int
def Gh.enc (x:Gh):List AV:=[.str x.Name,.int .i64 x.Kind,.int .i64 x.Amount,.str x.Group,.str x.System,.int .i64 x.Class,.int .i64 x.Window.Days,.int .i64 x.Window.From,.int .i64 x.Window.To,.int .i64 x.Least]
structure Hi where
 Name:(List UInt8)
 System:(List UInt8)
 Days:Int
 Cents:Int
def Hi.enc (x:Hi):List AV:=[.str x.Name,.str x.System,.int .i64 x.Days,.int .i64 x.Cents]
structure Gv where
 Upto:Int
 Unit:Int
 Cents:Int
def Gv.enc (x:Gv):List AV:=[.int .i64 x.Upto,.int .i64 x.Unit,.int .i64 x.Cents]
structure Gg where
 Name:(List UInt8)
 Hours:(List Gm)
 Steps:(List Gv)
 Grace:Int
 Free:Int
 DayMax:Int
 MaxStay:Int
def Gg.enc (x:Gg):List AV:=[.str x.Name,.lst (fl Gm.enc x.Hours) x.Hours.length,.lst (fl Gv.enc x.Steps) x.Steps.length,.int .i64 x.Grace,.int .i64 x.Free,.int .i64 x.DayMax,.int .i64 x.MaxStay]
structure GH where
 Name:(List UInt8)
 Zone:(List UInt8)
 Plates:(List (List UInt8))
 Valid:Gn
 Hours:(List Gm)
 Most:Int
def GH.enc (x:GH):List AV:=[.str x.Name,.str x.Zone,.lst (fl Mm x.Plates) x.Plates.length,.int .i64 x.Valid.From,.int .i64 x.Valid.To,.lst (fl Gm.enc x.Hours) x.Hours.length,.int .i64 x.Most]
structure Gk where
 Tag:(List UInt8)
 Plate:(List UInt8)
 Time:Gn
def Gk.enc (x:Gk):List AV:=[.str x.Tag,.str x.Plate,.int .i64 x.Time.From,.int .i64 x.Time.To]
structure Jl where
 Below:Int
 Cents:Int
 Tries:Int
 Wait:Int
def Jl.enc (x:Jl):List AV:=[.int .i64 x.Below,.int .i64 x.Cents,.int .i64 x.Tries,.int .i64 x.Wait]
structure Gd where
 Name:(List UInt8)
 Agency:(List UInt8)
 Prepay:Bool
 Owned:(List Gk)
 Refill:Jl
 Exempt:Bool
def Gd.enc (x:Gd):List AV:=[.str x.Name,.str x.Agency,.bool x.Prepay,.lst (fl Gk.enc x.Owned) x.Owned.length,.int .i64 x.Refill.Below,.int .i64 x.Refill.Cents,.int .i64 x.Refill.Tries,.int .i64 x.Refill.Wait,.bool x.Exempt]
structure GA where
 Kind:Int
 Part:Int
def GA.enc (x:GA):List AV:=[.int .i64 x.Kind,.int .i64 x.Part]
structure GN where
 Days:(List Int)
 Fees:(List Int)
 Limit:Int
def GN.enc (x:GN):List AV:=[.lst (fl Hc x.Days) x.Days.length,.lst (fl Hc x.Fees) x.Fees.length,.int .i64 x.Limit]
structure Gr where
 Purpose:Int
 Seconds:Int
 Least:Int
def Gr.enc (x:Gr):List AV:=[.int .i64 x.Purpose,.int .i64 x.Seconds,.int .i64 x.Least]
def J6 (p:Int×Bool):AV×AV:=(.int .i64 p.1,.bool p.2)
theorem UM:∀ (x y:Int×Bool),Kx (J6 x).1 (J6 y).1=decide (fst x=fst y):=by intro x y; simp [J6,Kx]
theorem Glz (k:Int):∀ x:Int×Bool,Kx (J6 x).1 (.int .i64 k)=decide (fst x=k):=fun x=>UM x (k,(false:Bool))
structure GB where
 Top:Ga
 Devices:(List Gl)
 Classes:(List Gj)
 Tags:(List Gy)
 Gap:Int
 Weak:Int
 Tariffs:(List Gf)
 Scale:GJ
 Discounts:(List Gh)
 Caps:(List Hi)
 Zones:(List Gg)
 Permits:(List GH)
 Accounts:(List Gd)
 Reliefs:(List GA)
 Holidays:(List Int)
 Law:GN
 Keeping:(List Gr)
 Agency:(List UInt8)
def GB.enc (x:GB):List AV:=[.lst (fl Gq.enc x.Top.Net.Points) x.Top.Net.Points.length,.lst (fl G1.enc x.Top.Net.Links) x.Top.Net.Links.length,.lst (fl Gi.enc x.Top.Systems) x.Top.Systems.length,.lst (fl Gl.enc x.Devices) x.Devices.length,.lst (fl Gj.enc x.Classes) x.Classes.length,.lst (fl Gy.enc x.Tags) x.Tags.length,.int .i64 x.Gap,.int .i64 x.Weak,.lst (fl Gf.enc x.Tariffs) x.Tariffs.length,.int .i64 x.Scale.Period,.lst (fl Hc x.Scale.Up) x.Scale.Up.length,.lst (fl Hc x.Scale.Down) x.Scale.Down.length,.lst (fl Hc x.Scale.Parts) x.Scale.Parts.length,.lst (fl Gh.enc x.Discounts) x.Discounts.length,.lst (fl Hi.enc x.Caps) x.Caps.length,.lst (fl Gg.enc x.Zones) x.Zones.length,.lst (fl GH.enc x.Permits) x.Permits.length,.lst (fl Gd.enc x.Accounts) x.Accounts.length,.lst (fl GA.enc x.Reliefs) x.Reliefs.length,.lst (fl Hc x.Holidays) x.Holidays.length,.lst (fl Hc x.Law.Days) x.Law.Days.length,.lst (fl Hc x.Law.Fees) x.Law.Fees.length,.int .i64 x.Law.Limit,.lst (fl Gr.enc x.Keeping) x.Keeping.length,.str x.Agency]
structure GG where
 Config:GB
def GG.enc (x:GG):List AV:=[.lst (fl Gq.enc x.Config.Top.Net.Points) x.Config.Top.Net.Points.length,.lst (fl G1.enc x.Config.Top.Net.Links) x.Config.Top.Net.Links.length,.lst (fl Gi.enc x.Config.Top.Systems) x.Config.Top.Systems.length,.lst (fl Gl.enc x.Config.Devices) x.Config.Devices.length,.lst (fl Gj.enc x.Config.Classes) x.Config.Classes.length,.lst (fl Gy.enc x.Config.Tags) x.Config.Tags.length,.int .i64 x.Config.Gap,.int .i64 x.Config.Weak,.lst (fl Gf.enc x.Config.Tariffs) x.Config.Tariffs.length,.int .i64 x.Config.Scale.Period,.lst (fl Hc x.Config.Scale.Up) x.Config.Scale.Up.length,.lst (fl Hc x.Config.Scale.Down) x.Config.Scale.Down.length,.lst (fl Hc x.Config.Scale.Parts) x.Config.Scale.Parts.length,.lst (fl Gh.enc x.Config.Discounts) x.Config.Discounts.length,.lst (fl Hi.enc x.Config.Caps) x.Config.Caps.length,.lst (fl Gg.enc x.Config.Zones) x.Config.Zones.length,.lst (fl GH.enc x.Config.Permits) x.Config.Permits.length,.lst (fl Gd.enc x.Config.Accounts) x.Config.Accounts.length,.lst (fl GA.enc x.Config.Reliefs) x.Config.Reliefs.length,.lst (fl Hc x.Config.Holidays) x.Config.Holidays.length,.lst (fl Hc x.Config.Law.Days) x.Config.Law.Days.length,.lst (fl Hc x.Config.Law.Fees) x.Config.Law.Fees.length,.int .i64 x.Config.Law.Limit,.lst (fl Gr.enc x.Config.Keeping) x.Config.Keeping.length,.str x.Config.Agency]
end
end Go.Proofs.YtnlaiahcemckkaaGreatDoor.Av
