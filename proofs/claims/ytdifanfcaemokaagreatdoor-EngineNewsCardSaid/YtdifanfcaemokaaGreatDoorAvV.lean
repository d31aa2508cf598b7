import Derived.Test.YtdifanfcaemokaaGreatDoorAvR5
import Derived.ChangeSame
import Derived.Carry
import Derived.WideKeyArgs
import Derived.OpenShut
import Derived.RowKit
open Prod (fst)
open Int (tdiv tmod)
set_option linter.unusedVariables false
set_option linter.unusedSimpArgs false
namespace Go.Proofs.YtdifanfcaemokaaGreatDoor.Av
noncomputable section
open Go.RowKit
def GzK (P:Program) (G:Nat→AV) (T:Tab P G) (self:GaQ) (n:Nat) (ops:Array Oper) (s:St) (hs:List CH):W (Hm×St×List CH):=Grk P G (Gah P G T self) n ops s hs
def evT (P:Program) (G:Nat→AV) (T:Tab P G) (fuel:Nat):GaQ:=
 Nat.rec (motive:=fun _=>GaQ) (fun _ _ _ _=>W.fail) (fun _ self=>evF P G T (GzK P G T) self) fuel
def ev (P:Program) (G:Nat→AV) (fuel:Nat):GaQ:=evT P G (GlL P G) fuel
theorem Gro (P:Program) (G:Nat→AV) (T:Tab P G):∀ fuel,Zs P G (evT P G T fuel)
 | 0=>fun _ _ _ _=>W.sat_fail
 | k+1=>GyX (drawB:=GzK P G T) (self:=evT P G T k) (Gro P G T k) fun n id ops s hs=>GsF (Vk (Gro P G T k))
theorem GvC (P:Program) (G:Nat→AV) (fuel:Nat):Zs P G (ev P G fuel):=Gro P G (GlL P G) fuel
theorem Gqb (P:Program) (G:Nat→AV) (T:Tab P G) (fuel:Nat) (f:FuncId) (args:List AV) (h:Hp) (hs:List CH):
  (VT P (evT P G T fuel) f args h hs).sat fun r=>Hn P G f args h r.1 r.2.1:=Gff (Gro P G T fuel) f args h hs
theorem Gsw (P:Program) (G:Nat→AV) (fuel:Nat) (f:FuncId) (args:List AV) (h:Hp) (hs:List CH):
  (VT P (ev P G fuel) f args h hs).sat fun r=>Hn P G f args h r.1 r.2.1:=Gff (GvC P G fuel) f args h hs
def yes (r:W (CO×Hp×List CH)):Bool:=match r with | some ((.ret (.bool true),_,[]),[])=>true | _=>false
end
noncomputable section
open Go.RowKit
variable {P:Program} {G:Nat→AV} {μ μ':Nat→Option HY} {ro ro':Nat→Prop} {w w':World}
theorem HA.of_body {fuel:Nat} {f:FuncId} {args:List AV} {hs:List CH} {v r:AV} {h':Hp} {rest:List CH} {ps:List Prop} {blks:List Hb} (ρ:List Nat)
  (he:VT P (ev P G fuel) f args ⟨.e,0⟩ hs=some ((.ret v,h',rest),ps)) (hok:KX ps)
  (hv:v=ren ρ 4 r) (hb:Rf h'.m ρ ρ blks) (hc:(Gbm ρ&&blks.all (GjO ρ.length)&&Giw ρ.length 4 r)=true):HA P G f args r blks:=by
 intro ro w vs hro ha hg
 simp only [Bool.and_eq_true] at hc
 have hd:=Gsw P G fuel f args ⟨.e,0⟩ hs _ _ he hok (fun _=>none) ro w vs ha.up ⟨fun i k h=>by simp [Tr.get] at h,fun i j k l b c h=>by simp [Tr.get] at h,fun i k b h=>by simp [Tr.get] at h,fun i b h=>by simp at h,hro,fun i _=>rfl⟩ hg
 refine hd.mono ?_
 rintro e w1 ⟨μ',ro',hup,hco,hh⟩
 refine ⟨Xj ρ μ',ro',⟨fun i hi=>absurd hi (Nat.not_lt_zero i),hup.up,hup.nw,⟨hup.fr.os,hup.fr.tape,hup.fr.output,hup.fr.size,hup.fr.block,hup.fr.rest,fun i l hi=>?_⟩⟩,?_,hh.ren hb hc.1.1 hc.1.2 (fun i hi=>if_pos hi) (fun i hi=>if_neg (by omega))⟩
 ·unfold Xj at hi
  split at hi
  ·exact hup.fr.new _ l hi
  ·cases hi
 ·cases e <;> simp only [GdY] at hco ⊢
  subst hv
  exact QY (fun i hi=>if_pos hi) 4 hc.2 hco
end
noncomputable section
open Go.RowKit Go.ChangeShapes Go.WideShapes Go.WideElems
variable {P:Program} {G:Nat→AV} {μ μ':Nat→Option HY} {ro ro':Nat→Prop} {w w':World}
theorem GjU {H:Type} {enc:TypeId×Value→H} (hl:laidOutB P=true) {W W':World} {sp':Nat→Bool}:∀ {ts:List TypeId} {vs:List Value} {ds:List (DataW H)} {ps:List MemPlace},
  (∀ t ∈ ts,P.readableRec t=true∧t<P.types.size)→DataW.TrodAll enc P W 0 (fun _=>true) true ts vs ds ps→(∀ p ∈ ps,W.sameAt W' p)→(∀ p ∈ ps,sp' p.block=true)→DataW.TrodAll enc P W' 0 sp' true ts vs ds ps
 | [],vs,ds,ps,_,h,_,_=>by
  obtain ⟨rfl,rfl,rfl⟩:=trodAll_nil h
  rfl
 | t::ts,vs,ds,ps,ht,h,h1,h2=>by
  obtain ⟨v,vs1,d,ds1,a,b,rfl,rfl,rfl,h3,h4⟩:=trodAll_cons h
  obtain ⟨g1,g2⟩:=ht t (List.mem_cons_self ..)
  exact ⟨a,b,Trod_stays hl g1 g2 h3 (fun p hp=>h1 p (List.mem_append_left _ hp)) (fun p hp=>h2 p (List.mem_append_left _ hp)),
   GjU hl (fun t ht'=>ht t (List.mem_cons_of_mem _ ht')) h4 (fun p hp=>h1 p (List.mem_append_right _ hp)) (fun p hp=>h2 p (List.mem_append_right _ hp)),rfl⟩
theorem GrL {W W':World} (hB:Below W.heap.size W W') {b off:Nat} (hb:b<W.heap.size):W'.frozen? ⟨b,off,none⟩=W.frozen? ⟨b,off,none⟩:=by
 simp only [World.frozen?,hB.block b hb]
theorem GwE {H:Type} {enc:TypeId×Value→H} {f:Func} {s:ChangeSpec} {apart fresh handsOn again:Bool} {W W':World} {args:Array Value} {ds gs:List (DataW H)} {before:List MemPlace} {tb:TypeId}
  (hl:laidOutB P=true) (hp:∀ t ∈ f.params.toList,P.readableRec t=true∧t<P.types.size) (hvars:s.vars=[])
  (hr:f.resultTypes=#[tb]) (hb:P.underlying tb=some .bool)
  (hs:∀ ds:List (DataW H),ds.length=f.params.size→s.fn H ds={ results:=[.lit (.bool true)],args:=ds })
  (hW:DataW.Whole enc P f.params.toList s.vars apart W args.toList ds gs before) (hB:Below W.heap.size W W'):s.post enc P f apart fresh handsOn again W args (.bool true) W':=by
 have hlt:∀ p ∈ before,p.block<W.heap.size:=fun p hp=>hW.lt p hp
 have hW':=hW
 obtain ⟨p,q,hA,hV,hpq,hz,hn⟩:=hW
 rw [hvars] at hV
 have hg:gs=[]∧q=[]:=by
  cases gs with
  | nil=>exact ⟨rfl,hV⟩
  | cons x y=>exact hV.elim
 obtain ⟨rfl,rfl⟩:=hg
 simp only [List.append_nil] at hpq
 subst hpq
 have hlen:ds.length=f.params.size:=by
  have:∀ {ts:List TypeId} {vs:List Value} {ds:List (DataW H)} {ps:List MemPlace},DataW.TrodAll enc P W 0 (fun _=>true) true ts vs ds ps→ds.length=ts.length:=fun {ts}=>by
   induction ts with
   | nil=>intro vs ds ps h; obtain ⟨rfl,rfl,rfl⟩:=trodAll_nil h; rfl
   | cons t ts ih=>intro vs ds ps h; obtain ⟨v,vs1,d,ds1,a,b,rfl,rfl,rfl,h3,h4⟩:=trodAll_cons h; simp [ih h4]
  rw [this hA]; simp
 have hfn:=hs ds hlen
 have hargs:∀ sp:Nat→Bool,(∀ x ∈ before,sp x.block=true)→DataW.TrodAll enc P W' 0 sp true f.params.toList args.toList ds before:=fun sp h=>
  GjU hl hp hA (fun x hx=>hB.same (hlt x hx)) h
 have hrl:(Value.bool true).resultList f.resultTypes.size=[.bool true]:=by rw [hr]; rfl
 have hres:∀ (b:Nat) (sp:Nat→Bool) (hd:Bool),DataW.TrodAll enc P W' b sp hd f.resultTypes.toList ((Value.bool true).resultList f.resultTypes.size) [.lit (.bool true)] []:=fun b sp hd=>by
  rw [hrl,hr]
  exact trodAll_cons_mk (shut_bool hb _) trodAll_mk0
 refine ⟨ds,[],before,[],before,[],hW',?_,?_,?_,hB.frame _,fun _=>⟨fun j t r h1 h2=>?_,[.lit (.bool true)]++ds,[],before,⟨before,[],?_,by rw [hvars]; rfl,by simp,?_,hn⟩,fun p hp _=>hp⟩⟩
 ·rw [List.append_nil,hfn]; exact hres _ _ _
 ·rw [List.append_nil,hfn]; exact hargs _ fun x hx=>by simpa using hlt x hx
 ·rw [List.append_nil,hfn,hvars]; rfl
 ·rw [hrl] at h2
  rw [hr] at h1
  cases j with
  | zero=>
   simp at h1 h2
   subst h1; subst h2
   exact okWide_bool_mk hb _
  | succ j=>simp at h1
 ·have:=trodAll_append (hargs (fun _=>true) fun _ _=>rfl) (hres 0 (fun _=>true) true)
  simpa using this
 ·intro b off hx
  have:=GrL hB (b:=b) (off:=off) (hlt _ hx)
  rw [this]
  exact hz b off hx
theorem HA.calls {f:FuncId} {args:List AV} {r:AV} {blks:List Hb} (h:HA P G f args r blks) {W:World} {vs:Array Value} (ha:GQ (fun _=>none) (fun b=>b<W.heap.size) W false args vs.toList)
  (hg:Xz G (fun _=>none) (fun b=>b<W.heap.size) W):Calls P f vs W fun e W'=>Below W.heap.size W W'∧∃ μ ro v,e=.returned v∧G1 μ ro W' true r v:=by
 refine (h _ W vs (fun b hb=>hb) ha hg).mono ?_
 rintro e w1 ⟨μ,ro,hup,hco,_⟩
 refine ⟨⟨hup.fr.os,hup.fr.tape,hup.fr.output,hup.fr.size,fun k hk=>hup.fr.block k hk⟩,?_⟩
 cases e <;> simp only [GdY] at hco
 exact ⟨μ,ro,_,rfl,hco⟩
theorem HA.calls_true {f:FuncId} {args:List AV} {blks:List Hb} (h:HA P G f args (.bool true) blks) {W:World} {vs:Array Value} (ha:GQ (fun _=>none) (fun b=>b<W.heap.size) W false args vs.toList)
  (hg:Xz G (fun _=>none) (fun b=>b<W.heap.size) W):Calls P f vs W fun e W'=>Below W.heap.size W W'∧e=.returned (.bool true):=by
 refine (h.calls ha hg).mono ?_
 rintro e W' ⟨h1,μ,ro,v,rfl,h2⟩
 cases h2
 exact ⟨h1,rfl⟩
end
noncomputable section
open Go.RowKit
variable {P:Program} {G:Nat→AV}
def Ggn:List Nat→Code→Code
 | [],c=>c
 | k::l,c=>
  match c with
  | .seq a b=>match k with | 0=>Ggn l a | _=>Ggn l b
  | .cond _ a b=>match k with | 0=>Ggn l a | _=>Ggn l b
  | .block _ b=>Ggn l b
  | .loop b=>Ggn l b
  | .scope b=>Ggn l b
  | c=>c
def GK (P:Program) (f:FuncId) (l:List Nat):Code:=match (P.funcs[f]?).bind (·.body) with | some c=>Ggn l c | none=>.skip
def Gtw (ks ids:List Nat) (r:W (Hm×St×List CH)):Option (Hm×List (Option AV)×List (Option Ob)×Nat×Bool×List Prop):=
 match r with
 | some ((e,s,_),ps)=>some (e,ks.map s.tm.get,ids.map s.hp.m.get,s.nt,s.df.isEmpty,ps)
 | none=>none
def GvX (ids:List Nat) (r:W (CO×Hp×List CH)):Option (CO×List (Option Ob)×List Prop):=
 match r with
 | some ((c,h,_),ps)=>some (c,ids.map h.m.get,ps)
 | none=>none
theorem Gl2 {t:Tr AV} {r:List Nat}:∀ {l:List (Nat×AV)},(l.map (·.1)).map t.get=l.map (fun x=>some (ren r 4 x.2))→Gnz t r l
 | [],_=>trivial
 | (k,v)::l,h=>by
  simp only [List.map_cons,List.cons.injEq] at h
  exact ⟨h.1,Gl2 h.2⟩
theorem XZ {m:Tr Ob} {r:List Nat}:∀ {l:List Nat} {bs:List Hb},l.map m.get=bs.map (fun b=>some (KO r b).ob)→Rf m r l bs
 | [],[],_=>trivial
 | i::l,b::bs,h=>by
  simp only [List.map_cons,List.cons.injEq] at h
  exact ⟨h.1,XZ h.2⟩
 | [],_::_,h=>by simp at h
 | _::_,[],h=>by simp at h
theorem GN.of_viewM (m fuel:Nat) (hs:List CH) (ρ:List Nat) {c:Code} {s:St} {e:Hm} {nt:Nat} {tms:List (Nat×AV)} {blks:List Hb} {ps:List Prop}
  (he:Gtw (tms.map (·.1)) ρ (Gtl (ev P G fuel) m c s hs)=some (e,tms.map (fun x=>some (ren ρ 4 x.2)),blks.map (fun b=>some (KO ρ b).ob),nt,true,ps))
  (hc:(okS ρ tms blks&&idM ρ m&&e.quiet)=true) (hok:KX ps):GN P G m c s e (S nt tms blks):=by
 cases hr:Gtl (ev P G fuel) m c s hs with
 | none=>rw [hr] at he; cases he
 | some x=>
  obtain ⟨⟨e',s',rest⟩,ps'⟩:=x
  rw [hr] at he
  simp only [Gtw,sJ,Prod.mk.injEq] at he
  obtain ⟨rfl,h1,h2,h3,h4,rfl⟩:=he
  exact (Gtm (GvC P G fuel) m c s hs _ _ hr hok:GN P G m c s e' s').post (fun v hv=>by subst hv; simp [Hm.quiet] at hc) (Uc.of_renM ρ h3 (List.isEmpty_iff.1 h4) (Gl2 h1) (XZ h2) (by simp only [Bool.and_eq_true] at hc ⊢; simp only [okS,Bool.and_eq_true] at hc; exact hc.1.1) m (GeS (by simp only [Bool.and_eq_true] at hc; exact hc.1.2)))
theorem GN.of_view (fuel:Nat) (hs:List CH) (ρ:List Nat) {c:Code} {s:St} {e:Hm} {nt:Nat} {tms:List (Nat×AV)} {blks:List Hb} {ps:List Prop}
  (he:Gtw (tms.map (·.1)) ρ (Gtl (ev P G fuel) 0 c s hs)=some (e,tms.map (fun x=>some (ren ρ 4 x.2)),blks.map (fun b=>some (KO ρ b).ob),nt,true,ps))
  (hc:okS ρ tms blks=true) (hq:e.quiet=true) (hok:KX ps):GN P G 0 c s e (S nt tms blks):=
 GN.of_viewM 0 fuel hs ρ he (by simp [hc,hq,idM]) hok
theorem HA.of_view (fuel:Nat) (hs:List CH) (ρ:List Nat) {f:FuncId} {args:List AV} {r:AV} {blks:List Hb} {ps:List Prop}
  (he:GvX ρ (VT P (ev P G fuel) f args ⟨.e,0⟩ hs)=some (.ret (ren ρ 4 r),blks.map (fun b=>some (KO ρ b).ob),ps))
  (hc:okR ρ r blks=true) (hok:KX ps):HA P G f args r blks:=by
 cases hr:VT P (ev P G fuel) f args ⟨.e,0⟩ hs with
 | none=>rw [hr] at he; cases he
 | some x=>
  obtain ⟨⟨co,h',rest⟩,ps'⟩:=x
  rw [hr] at he
  simp only [GvX,sJ,Prod.mk.injEq] at he
  obtain ⟨rfl,h1,rfl⟩:=he
  exact HA.of_body ρ hr hok rfl (XZ h1) hc
end
end Go.Proofs.YtdifanfcaemokaaGreatDoor.Av
