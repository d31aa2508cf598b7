import Derived.Test.YtnlaiahcemckkaaGreatDoorHAvR5
import Derived.ChangeSame
import Derived.Carry
import Derived.WideKeyArgs
import Derived.OpenShut
import Derived.RowKit
open Prod (fst)
open Int (tdiv tmod)
set_option linter.unusedVariables false
set_option linter.unusedSimpArgs false
namespace Go.Proofs.YtnlaiahcemckkaaGreatDoor.Av
noncomputable section
open Go.RowKit
def Gwz (P:Program) (G:Nat→AV) (T:Tab P G) (self:Gau) (n:Nat) (ops:Array Oper) (s:St) (hs:List CH):W (Hm×St×List CH):=GpV P G (GdT P G T self) n ops s hs
def evT (P:Program) (G:Nat→AV) (T:Tab P G) (fuel:Nat):Gau:=
 Nat.rec (motive:=fun _=>Gau) (fun _ _ _ _=>W.fail) (fun _ self=>evF P G T (Gwz P G T) self) fuel
def ev (P:Program) (G:Nat→AV) (fuel:Nat):Gau:=evT P G (Glx P G) fuel
theorem GoU (P:Program) (G:Nat→AV) (T:Tab P G):∀ fuel,YC P G (evT P G T fuel)
 | 0=>fun _ _ _ _=>W.sat_fail
 | k+1=>GvQ (drawB:=Gwz P G T) (self:=evT P G T k) (GoU P G T k) fun n id ops s hs=>Grh (Ya (GoU P G T k))
theorem Gxm (P:Program) (G:Nat→AV) (fuel:Nat):YC P G (ev P G fuel):=GoU P G (Glx P G) fuel
theorem GoK (P:Program) (G:Nat→AV) (T:Tab P G) (fuel:Nat) (f:FuncId) (args:List AV) (h:Hp) (hs:List CH):
  (Ge0 P (evT P G T fuel) f args h hs).sat fun r=>Hl P G f args h r.1 r.2.1:=Gip (GoU P G T fuel) f args h hs
def yes (r:W (CO×Hp×List CH)):Bool:=match r with | some ((.ret (.bool true),_,[]),[])=>true | _=>false
end
noncomputable section
open Go.RowKit
variable {P:Program} {G:Nat→AV} {μ μ':Nat→Option HI} {ro ro':Nat→Prop} {w w':World}
end
noncomputable section
open Go.RowKit Go.ChangeShapes Go.WideShapes Go.WideElems
variable {P:Program} {G:Nat→AV} {μ μ':Nat→Option HI} {ro ro':Nat→Prop} {w w':World}
theorem Ghf {H:Type} {enc:TypeId×Value→H} (hl:laidOutB P=true) {W W':World} {sp':Nat→Bool}:∀ {ts:List TypeId} {vs:List Value} {ds:List (DataW H)} {ps:List MemPlace},
  (∀ t ∈ ts,P.readableRec t=true∧t<P.types.size)→DataW.TrodAll enc P W 0 (fun _=>true) true ts vs ds ps→(∀ p ∈ ps,W.sameAt W' p)→(∀ p ∈ ps,sp' p.block=true)→DataW.TrodAll enc P W' 0 sp' true ts vs ds ps
 | [],vs,ds,ps,_,h,_,_=>by
  obtain ⟨rfl,rfl,rfl⟩:=trodAll_nil h
  rfl
 | t::ts,vs,ds,ps,ht,h,h1,h2=>by
  obtain ⟨v,vs1,d,ds1,a,b,rfl,rfl,rfl,h3,h4⟩:=trodAll_cons h
  obtain ⟨g1,g2⟩:=ht t (List.mem_cons_self ..)
  exact ⟨a,b,Trod_stays hl g1 g2 h3 (fun p hp=>h1 p (List.mem_append_left _ hp)) (fun p hp=>h2 p (List.mem_append_left _ hp)),
   Ghf hl (fun t ht'=>ht t (List.mem_cons_of_mem _ ht')) h4 (fun p hp=>h1 p (List.mem_append_right _ hp)) (fun p hp=>h2 p (List.mem_append_right _ hp)),rfl⟩
theorem Gqb {W W':World} (hB:Below W.heap.size W W') {b off:Nat} (hb:b<W.heap.size):W'.frozen? ⟨b,off,none⟩=W.frozen? ⟨b,off,none⟩:=by
 simp only [World.frozen?,hB.block b hb]
theorem Gue {H:Type} {enc:TypeId×Value→H} {f:Func} {s:ChangeSpec} {apart fresh handsOn again:Bool} {W W':World} {args:Array Value} {ds gs:List (DataW H)} {before:List MemPlace} {tb:TypeId}
  (hl:laidOutB P=true) (hp:∀ t ∈ f.params.toList,P.readableRec t=true∧t<P.types.size) (hvars:s.vars=[])
  (hr:f.resultTypes=#[tb]) (hb:P.underlying tb=some .bool)
  (hs:∀ ds:List (DataW H),ds.length=f.params.size→s.fn H ds={ results:=[.lit (.bool true)],args:=ds })
  (hW:DataW.Whole enc P f.params.toList s.vars apart W args.toList ds gs before) (hB:Below W.heap.size W W'):s.post enc P f apart fresh handsOn again W args (.bool true) W':=by
 have hlt:∀ p ∈ before,p.block<W.heap.size:=fun p hp=>hW.lt p hp
 have hW':=hW
 obtain ⟨p,q,hA,hV,hpq,hz,hn⟩:=hW
 rw [hvars] at hV
 have hg:gs=[]∧q=[]:=by
  cases gs with
  | nil=>exact ⟨rfl,hV⟩
  | cons x y=>exact hV.elim
 obtain ⟨rfl,rfl⟩:=hg
 simp only [List.append_nil] at hpq
 subst hpq
 have hlen:ds.length=f.params.size:=by
  have:∀ {ts:List TypeId} {vs:List Value} {ds:List (DataW H)} {ps:List MemPlace},DataW.TrodAll enc P W 0 (fun _=>true) true ts vs ds ps→ds.length=ts.length:=fun {ts}=>by
   induction ts with
   | nil=>intro vs ds ps h; obtain ⟨rfl,rfl,rfl⟩:=trodAll_nil h; rfl
   | cons t ts ih=>intro vs ds ps h; obtain ⟨v,vs1,d,ds1,a,b,rfl,rfl,rfl,h3,h4⟩:=trodAll_cons h; simp [ih h4]
  rw [this hA]; simp
 have hfn:=hs ds hlen
 have hargs:∀ sp:Nat→Bool,(∀ x ∈ before,sp x.block=true)→DataW.TrodAll enc P W' 0 sp true f.params.toList args.toList ds before:=fun sp h=>
  Ghf hl hp hA (fun x hx=>hB.same (hlt x hx)) h
 have hrl:(Value.bool true).resultList f.resultTypes.size=[.bool true]:=by rw [hr]; rfl
 have hres:∀ (b:Nat) (sp:Nat→Bool) (hd:Bool),DataW.TrodAll enc P W' b sp hd f.resultTypes.toList ((Value.bool true).resultList f.resultTypes.size) [.lit (.bool true)] []:=fun b sp hd=>by
  rw [hrl,hr]
  exact trodAll_cons_mk (shut_bool hb _) trodAll_mk0
 refine ⟨ds,[],before,[],before,[],hW',?_,?_,?_,hB.frame _,fun _=>⟨fun j t r h1 h2=>?_,[.lit (.bool true)]++ds,[],before,⟨before,[],?_,by rw [hvars]; rfl,by simp,?_,hn⟩,fun p hp _=>hp⟩⟩
 ·rw [List.append_nil,hfn]; exact hres _ _ _
 ·rw [List.append_nil,hfn]; exact hargs _ fun x hx=>by simpa using hlt x hx
 ·rw [List.append_nil,hfn,hvars]; rfl
 ·rw [hrl] at h2
  rw [hr] at h1
  cases j with
  | zero=>
   simp at h1 h2
   subst h1; subst h2
   exact okWide_bool_mk hb _
  | succ j=>simp at h1
 ·have:=trodAll_append (hargs (fun _=>true) fun _ _=>rfl) (hres 0 (fun _=>true) true)
  simpa using this
 ·intro b off hx
  have:=Gqb hB (b:=b) (off:=off) (hlt _ hx)
  rw [this]
  exact hz b off hx
theorem G5.calls {f:FuncId} {args:List AV} {r:AV} {blks:List G6} (h:G5 P G f args r blks) {W:World} {vs:Array Value} (ha:GR (fun _=>none) (fun b=>b<W.heap.size) W false args vs.toList)
  (hg:Vw G (fun _=>none) (fun b=>b<W.heap.size) W):Calls P f vs W fun e W'=>Below W.heap.size W W'∧∃ μ ro v,e=.returned v∧GX μ ro W' true r v:=by
 refine (h _ W vs (fun b hb=>hb) ha hg).mono ?_
 rintro e w1 ⟨μ,ro,hup,hco,_⟩
 refine ⟨⟨hup.fr.os,hup.fr.tape,hup.fr.output,hup.fr.size,fun k hk=>hup.fr.block k hk⟩,?_⟩
 cases e <;> simp only [GfS] at hco
 exact ⟨μ,ro,_,rfl,hco⟩
theorem G5.calls_true {f:FuncId} {args:List AV} {blks:List G6} (h:G5 P G f args (.bool true) blks) {W:World} {vs:Array Value} (ha:GR (fun _=>none) (fun b=>b<W.heap.size) W false args vs.toList)
  (hg:Vw G (fun _=>none) (fun b=>b<W.heap.size) W):Calls P f vs W fun e W'=>Below W.heap.size W W'∧e=.returned (.bool true):=by
 refine (h.calls ha hg).mono ?_
 rintro e W' ⟨h1,μ,ro,v,rfl,h2⟩
 cases h2
 exact ⟨h1,rfl⟩
end
noncomputable section
open Go.RowKit
variable {P:Program} {G:Nat→AV}
def Gfo:List Nat→Code→Code
 | [],c=>c
 | k::l,c=>
  match c with
  | .seq a b=>match k with | 0=>Gfo l a | _=>Gfo l b
  | .cond _ a b=>match k with | 0=>Gfo l a | _=>Gfo l b
  | .block _ b=>Gfo l b
  | .loop b=>Gfo l b
  | .scope b=>Gfo l b
  | c=>c
def GO (P:Program) (f:FuncId) (l:List Nat):Code:=match (P.funcs[f]?).bind (·.body) with | some c=>Gfo l c | none=>.skip
theorem Grl {t:Tr AV} {r:List Nat}:∀ {l:List (Nat×AV)},(l.map (·.1)).map t.get=l.map (fun x=>some (ren r 4 x.2))→GlA t r l
 | [],_=>trivial
 | (k,v)::l,h=>by
  simp only [List.map_cons,List.cons.injEq] at h
  exact ⟨h.1,Grl h.2⟩
theorem Glu {m:Tr Ob} {r:List Nat}:∀ {l:List Nat} {bs:List G6},l.map m.get=bs.map (fun b=>some (MA r b).ob)→R4 m r l bs
 | [],[],_=>trivial
 | i::l,b::bs,h=>by
  simp only [List.map_cons,List.cons.injEq] at h
  exact ⟨h.1,Glu h.2⟩
 | [],_::_,h=>by simp at h
 | _::_,[],h=>by simp at h
end
end Go.Proofs.YtnlaiahcemckkaaGreatDoor.Av
