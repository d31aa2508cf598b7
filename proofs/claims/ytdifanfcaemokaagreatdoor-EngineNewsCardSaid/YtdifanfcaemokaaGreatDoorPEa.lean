import Derived.Test.YtdifanfcaemokaaGreatDoorAvYW
import Derived.Lib.LaidTab
import Derived.Sort.Grow
import Derived.Deep.Draws
open Prod (fst)
open Int (tdiv tmod)
set_option linter.unusedVariables false
set_option linter.unusedSimpArgs false
namespace Go.Proofs.YtdifanfcaemokaaGreatDoor.Av
open Go.RowKit
variable {P:Program} {G:Nat→AV} {μ μ':Nat→Option HY} {ro ro':Nat→Prop} {w w':World}
def Kl (P:Program) (G:Nat→AV) (m:Nat) (f:FuncId) (args:List AV) (blks:List Hb) (r:AV) (blks':List Hb):Prop:=
 ∀ μ ro w (vs:Array Value),GQ μ ro w true args vs.toList→GV μ ro (RX blks ⟨.e,0⟩) w→Xz G μ ro w→Calls P f vs w (Gob m μ ro w (.ret r) (RX blks' ⟨.e,0⟩))
def Gnn (m:Nat) (ρ:List Nat) (args:List AV) (blks:List Hb) (r:AV) (blks':List Hb):Gxc where
 ok:=fun _ _=>Gbm ρ&&blks.all (GjO ρ.length)&&args.all (Giw ρ.length 4)&&(blks'.all Gyr&&GnS 4 r)&&Nat.ble m ρ.length
 req:=fun args0 h=>args0=args.map (ren ρ 4)∧Rf h.m ρ ρ blks
 res:=fun _ h=>(.ret (mpN (fN ρ m h.nx) 4 r),⟨Go1 (fN ρ m h.nx) blks' 0 (Gmg ρ h.m),h.nx+blks'.length⟩)
theorem GxZ {m:Nat} {f:FuncId} {args:List AV} {blks:List Hb} {r:AV} {blks':List Hb} (ρ:List Nat) (h:Kl P G m f args blks r blks'):Gxe P G f (Gnn m ρ args blks r blks'):=by
 intro args0 hp hc hreq μ ro w vs ha hh hg
 simp only [Gnn,Bool.and_eq_true] at hc
 obtain ⟨rfl,hb⟩:=hreq
 obtain ⟨⟨⟨⟨hc1,hc2⟩,hc3⟩,hc'⟩,hm⟩:=hc
 have hm:=nB hm
 have ha0:GQ (Xj ρ μ) ro w true args vs.toList:=by
  refine ⟨by simpa using ha.1,fun i hi=>?_⟩
  have:=ha.2 i (by simpa using hi)
  rw [QU hi] at this
  exact QY (fun i hi=>if_pos hi) 4 (Kg hc3 hi) this
 have hh0:GV (Xj ρ μ) ro (RX blks ⟨.e,0⟩) w:=hh.ren hb hc1 hc2 (fun i hi=>if_pos hi) (fun i hi=>if_neg (by omega))
 have hmu:∀ i l,Xj ρ μ i=some l→i<ρ.length∧μ (rho ρ i)=some l:=fun i l hi=>by
  unfold Xj at hi
  split at hi
  ·exact ⟨by assumption,hi⟩
  ·cases hi
 have hin:∀ i,i<ρ.length→rho ρ i ∈ ρ:=fun i hi=>by
  unfold rho; rw [List.getD_eq_getElem?_getD,List.getElem?_eq_getElem hi]; exact List.getElem_mem hi
 have hbl:=(XY hb).1
 have hbg:=(XY hb).2
 have hent:∀ i,i<ρ.length→∃ k,hp.m.get (rho ρ i)=some k:=fun i hi=>⟨_,hbg i _ (List.getElem?_eq_getElem (hbl ▸ hi))⟩
 have hltnx:∀ {i k},hp.m.get i=some k→i<hp.nx:=fun {i k} hi=>by
  rcases Nat.lt_or_ge i hp.nx with h1 | h1
  ·exact h1
  ·rcases hh.obs i k hi with ⟨b,hb,_⟩ | ⟨_,_,h3⟩
   ·rw [hh.nx i h1] at hb; cases hb
   ·exact h3
 refine (h (Xj ρ μ) ro w vs ha0 hh0 hg.any).mono ?_
 rintro e w1 ⟨μ1,ro1,hup,hco,hh1⟩
 have hoth:∀ {i k b},(Gmg ρ hp.m).get i=some k→μ i=some b→∀ j l,Xj ρ μ j=some l→l.1≠b.1:=fun {i k b} hi hbi j l hj e=>by
  obtain ⟨h1,h2⟩:=MH hi
  obtain ⟨h3,h4⟩:=hmu j l hj
  obtain ⟨k',hk'⟩:=hent j h3
  have:=hh.inj _ _ k' k l b hk' h2 h4 hbi e
  exact h1 (this ▸ hin j h3)
 have hsame:∀ {i k b},(Gmg ρ hp.m).get i=some k→μ i=some b→w1.heap[b.1]?=w.heap[b.1]?:=fun {i k b} hi hbi=>hup.fr.rest b.1 (hh.lt i b hbi) (hoth hi hbi)
 let μ2:Nat→Option HY:=fun i=>if i<hp.nx then μ i else μ1 (i - hp.nx)
 have hμ2:∀ i b,μ i=some b→μ2 i=some b:=fun i b hi=>by
  have:i<hp.nx:=by
   rcases Nat.lt_or_ge i hp.nx with h | h
   ·exact h
   ·rw [hh.nx i h] at hi; cases hi
  simp only [μ2,if_pos this]; exact hi
 have hfN:∀ q,μ2 (fN ρ m hp.nx q)=μ1 q:=fun q=>by
  rcases Nat.lt_or_ge q m with h1 | h1
  ·rw [GvE h1]
   have h2:q<ρ.length:=by omega
   obtain ⟨k,hk⟩:=hent q h2
   simp only [μ2,if_pos (hltnx hk)]
   rw [hup.ag q h1]
   unfold Xj
   rw [if_pos h2]
  ·rw [GvD h1]
   simp only [μ2]
   rw [if_neg (by omega),Nat.add_sub_cancel_left]
 have hμ1:∀ i b,μ1 i=some b→μ2 (fN ρ m hp.nx i)=some b:=fun i b hi=>(hfN i).trans hi
 have hget1:=fun i=>(Kw blks' ⟨.e,0⟩ i)
 have hnx1:(RX blks' ⟨.e,0⟩).nx=blks'.length:=by
  have:=(hget1 0).1
  simp only [Nat.zero_add] at this
  exact this
 have hcase:∀ i k,(Go1 (fN ρ m hp.nx) blks' 0 (Gmg ρ hp.m)).get i=some k→
   (i<hp.nx∧(Gmg ρ hp.m).get i=some k)∨(∃ q b,i=fN ρ m hp.nx q∧q<blks'.length∧(RX blks' ⟨.e,0⟩).m.get q=some b.ob∧k=(mpB (fN ρ m hp.nx) b).ob∧b ∈ blks'):=fun i k hi=>by
  rcases GmL hi with ⟨q,b,h1,h2,h3⟩ | h1
  ·rw [Nat.zero_add] at h2
   have hlt:=(List.getElem?_eq_some_iff.1 h1).1
   refine .inr ⟨q,b,h2,hlt,?_,h3,List.mem_of_getElem? h1⟩
   rw [(hget1 q).2,if_pos (by simp only; omega)]
   simp only [Nat.sub_zero,h1,Option.map_some]
  ·exact .inl ⟨hltnx (MH h1).2,h1⟩
 have hfr:Fr μ ro w μ2 w1:=⟨hup.fr.os,hup.fr.tape,hup.fr.output,hup.fr.size,hup.fr.block,fun b hb hno=>hup.fr.rest b hb fun i l hi=>hno _ l (hmu i l hi).2,fun i l hi=>by
  simp only [μ2] at hi
  split at hi
  ·exact .inl ⟨i,l,hi,rfl⟩
  ·rcases hup.fr.new _ l hi with ⟨j,m,hj,hm⟩ | h
   ·exact .inl ⟨_,m,(hmu j m hj).2,hm⟩
   ·exact .inr h⟩
 refine ⟨μ2,ro1,⟨fun i hi=>by simp only [μ2]; rw [if_pos (by omega)],hup.up,fun b hb=>(hup.nw b hb).imp_right (Or.imp_right fun ⟨i,l,h1,h2⟩=>⟨_,l,(hmu i l h1).2,h2⟩),hfr⟩,?_,?_⟩
 ·cases e with
  | returned x=>exact Gav hμ1 4 hc'.2 hco
  | panicked c=>exact hco.elim
  | outgrown=>exact hco.elim
 ·refine ⟨fun i k hi=>?_,fun i j k l b c hi hj hbi hbj hbc=>?_,fun i k b hi hbi hr=>?_,fun i b hbi=>?_,hh1.old,fun i hi=>?_⟩
  ·rcases hcase i k hi with ⟨h1,h2⟩ | ⟨q,b,rfl,hql,h2,rfl,h3⟩
   ·rcases hh.obs i k (MH h2).2 with ⟨b,hb,hob⟩ | ⟨q1,q2,q3⟩
    ·exact .inl ⟨b,hμ2 _ _ hb,hob.mono hμ2 hup.up hup.fr.block (hsame h2 hb)⟩
    ·exact .inr ⟨by simp only [μ2,if_pos h1]; exact q1,q2,by simp only [Gnn]; omega⟩
   ·cases hit:b.it with
    | some sp=>
     have e1:(mpB (fN ρ m hp.nx) b).ob=sp.ob:=by simp [Hb.ob,mpB,hit]
     have e2:b.ob=sp.ob:=by simp [Hb.ob,hit]
     rw [e2] at h2
     obtain ⟨l,hl,hob⟩:=hh1.obsT _ _ h2
     rw [e1]
     exact .inl ⟨l,hμ1 _ _ hl,hob.it_mu⟩
    | none=>
    have e1:(mpB (fN ρ m hp.nx) b).ob=.blk (mpB (fN ρ m hp.nx) b):=by simp [Hb.ob,mpB,hit]
    have e2:b.ob=.blk b:=by simp [Hb.ob,hit]
    rw [e2] at h2
    rw [e1]
    rcases hh1.obs _ _ h2 with ⟨l,hl,hob⟩ | ⟨q1,q2,q3⟩
    ·refine .inl ⟨l,hμ1 _ _ hl,?_⟩
     obtain ⟨cs,fr,g1,g0,g2,g3,g4,g5⟩:=ME.get hob
     have h4:=hc'.1
     rw [List.all_eq_true] at h4
     have h5:=h4 b h3
     cases hp0:b.pl with
     | true=>
      have hcc:(mpB (fN ρ m hp.nx) b).c=b.c:=by simp [mpB,hp0]
      refine ⟨⟨cs,fr,g1,g0,hcc ▸ g2,fun h=>by rw [hcc]; exact g3 h,g4,fun j hj=>?_⟩⟩
      rw [hcc] at hj ⊢
      have:=g5 j hj
      simp only [mpB,hp0,Bool.not_true] at this ⊢
      exact this.any_mu
     | false=>
      have hcc:(mpB (fN ρ m hp.nx) b).c=b.c.map (mpN (fN ρ m hp.nx) 6):=by simp [mpB,hp0]
      refine ⟨⟨cs,fr,g1,g0,by rw [hcc]; simpa using g2,fun h=>by rw [hcc]; simpa using g3 h,g4,fun j hj=>?_⟩⟩
      rw [hcc] at hj ⊢
      simp only [List.length_map] at hj
      rw [QU hj]
      have:=g5 j hj
      simp only [mpB,hp0,Bool.not_false] at this ⊢
      simp only [Gyr,hp0,Bool.false_or] at h5
      exact Gav hμ1 6 (Kg h5 hj) this
    ·refine .inr ⟨(hfN q).trans q1,⟨q2.1,?_⟩,?_⟩
     ·have h6:=q2.2
      simp only [mpB]
      cases b.pl <;> simp [h6]
     ·rcases Nat.lt_or_ge q m with h1 | h1
      ·rw [GvE h1]
       obtain ⟨k,hk⟩:=hent q (by omega)
       have:=hltnx hk
       simp only [Gnn]; omega
      ·rw [GvD h1]; simp only [Gnn]; omega
  ·rcases hcase i k hi with ⟨h1,h2⟩ | ⟨q,kb,rfl,_,h2,rfl,_⟩ <;> rcases hcase j l hj with ⟨h3,h4⟩ | ⟨q',lb,rfl,_,h4,rfl,_⟩
   ·simp only [μ2,if_pos h1] at hbi; simp only [μ2,if_pos h3] at hbj
    exact hh.inj i j k l b c (MH h2).2 (MH h4).2 hbi hbj hbc
   ·simp only [μ2,if_pos h1] at hbi; rw [hfN] at hbj
    rcases hup.fr.new _ c hbj with ⟨q,m,hq,hm⟩ | h
    ·exact absurd (hm.trans hbc.symm) (hoth h2 hbi q m hq)
    ·have:=hh.lt i b hbi; omega
   ·rw [hfN] at hbi; simp only [μ2,if_pos h3] at hbj
    rcases hup.fr.new _ b hbi with ⟨q,m,hq,hm⟩ | h
    ·exact absurd (hm.trans hbc) (hoth h4 hbj q m hq)
    ·have:=hh.lt j c hbj; omega
   ·rw [hfN] at hbi hbj
    have:=hh1.inj _ _ _ _ b c h2 h4 hbi hbj hbc
    rw [this]
  ·rcases hcase i k hi with ⟨h1,h2⟩ | ⟨q,kb,rfl,_,h2,rfl,_⟩
   ·simp only [μ2,if_pos h1] at hbi
    rcases hup.nw b.1 hr with h | h | ⟨q,m,hq,hm⟩
    ·exact hh.own i k b (MH h2).2 hbi h
    ·have:=hh.lt i b hbi; omega
    ·exact hoth h2 hbi q m hq hm
   ·rw [hfN] at hbi
    exact hh1.own _ _ b h2 hbi hr
  ·simp only [μ2] at hbi
   split at hbi
   ·exact Nat.lt_of_lt_of_le (hh.lt i b hbi) hup.fr.size
   ·exact hh1.lt _ b hbi
  ·simp only [Gnn] at hi
   simp only [μ2]
   rw [if_neg (by omega)]
   exact hh1.nx _ (by rw [hnx1]; omega)
theorem Kl.of_view (m fuel:Nat) (hs:List CH) (ρ:List Nat) {f:FuncId} {args:List AV} {blks:List Hb} {r:AV} {blks':List Hb} {ps:List Prop}
  (he:GvX ρ (VT P (ev P G fuel) f args (RX blks ⟨.e,0⟩) hs)=some (.ret (ren ρ 4 r),blks'.map (fun b=>some (KO ρ b).ob),ps))
  (hc:(okR ρ r blks'&&idM ρ m&&Nat.ble m blks.length)=true) (hok:KX ps):Kl P G m f args blks r blks':=by
 intro μ ro w vs ha hh hg
 cases hr:VT P (ev P G fuel) f args (RX blks ⟨.e,0⟩) hs with
 | none=>rw [hr] at he; cases he
 | some x=>
  obtain ⟨⟨co,h',rest⟩,ps'⟩:=x
  rw [hr] at he
  simp only [GvX,sJ,Prod.mk.injEq] at he
  obtain ⟨rfl,h1,rfl⟩:=he
  have hb:Rf h'.m ρ ρ blks':=XZ h1
  simp only [Bool.and_eq_true,okR] at hc
  obtain ⟨⟨⟨⟨hc1,hc2⟩,hc3⟩,hid⟩,hm⟩:=hc
  have hm:=nB hm
  have hid:=GeS hid
  have hd:=Gsw P G fuel f args (RX blks ⟨.e,0⟩) hs _ _ hr hok μ ro w vs ha hh hg
  have hnx:(RX blks ⟨.e,0⟩).nx=blks.length:=by
   have:=(Kw blks ⟨.e,0⟩ 0).1
   simp only [Nat.zero_add] at this
   exact this
  refine hd.mono ?_
  rintro e w1 ⟨μ',ro',hup,hco,hh1⟩
  refine ⟨Xj ρ μ',ro',⟨fun i hi=>?_,hup.up,hup.nw,⟨hup.fr.os,hup.fr.tape,hup.fr.output,hup.fr.size,hup.fr.block,hup.fr.rest,fun i l hi=>?_⟩⟩,?_,hh1.ren hb hc1 hc2 (fun i hi=>if_pos hi) (fun i hi=>if_neg (by omega))⟩
  ·unfold Xj
   rw [if_pos (hid i hi).1,(hid i hi).2]
   exact hup.ag i (by rw [hnx]; omega)
  ·unfold Xj at hi
   split at hi
   ·exact hup.fr.new _ l hi
   ·cases hi
  ·cases e <;> simp only [GdY] at hco ⊢
   exact QY (fun i hi=>if_pos hi) 4 hc3 hco
theorem HA.lst0 {f:FuncId} {r:AV} {blks:List Hb} (h1:HA P G f [.nils] r blks) (h2:HA P G f [.nen] r blks):HA P G f [.lst [] 0] r blks:=fun ro w vs hro ha hg=>by
 obtain ⟨x,rest,hv,hx,hr⟩:=ha.head
 have hn:rest=[]:=List.length_eq_zero_iff.1 (by simpa using hr.1)
 subst hn
 have key:∀ v,G1 (fun _=>none) ro w false v x→GQ (fun _=>none) ro w false [v] vs.toList:=fun v h=>by rw [hv]; exact GQ.cons h GQ.nil
 rcases hx.lst_cases with h | h
 ·exact h1 ro w vs hro (key _ h) hg
 ·exact h2 ro w vs hro (key _ h) hg
end Go.Proofs.YtdifanfcaemokaaGreatDoor.Av
set_option linter.unusedVariables false
set_option linter.unusedSimpArgs false
namespace Go.Proofs.YtdifanfcaemokaaGreatDoor.Av
variable {P:Program} {G:Nat→AV}
theorem HA.of_calls {f:FuncId} {args:List AV} {r:AV}
  (h:∀ (ro:Nat→Prop) w (vs:Array Value),(∀ b,ro b→b<w.heap.size)→GQ (fun _=>none) ro w false args vs.toList→Xz G (fun _=>none) ro w→
   Calls P f vs w fun e w'=>(∃ x,e=.returned x∧∀ μ ro' w'',G1 μ ro' w'' true r x)∧∃ k os,w'=Go.Sort.grow (w.drewN k) os):HA P G f args r []:=by
 intro ro w vs hlt hr hg
 refine (h ro w vs hlt hr hg).mono ?_
 rintro e w' ⟨⟨x,rfl,hx⟩,k,os,rfl⟩
 have hs:w.heap.size≤(Go.Sort.grow (w.drewN k) os).heap.size:=by simp [Go.Sort.grow,World.drewN]
 have hold:∀ b,b<w.heap.size→(Go.Sort.grow (w.drewN k) os).heap[b]?=w.heap[b]?:=fun b hb=>by
  simp only [Go.Sort.grow,World.drewN]
  rw [Array.getElem?_append_left hb]
 refine ⟨fun _=>none,ro,⟨fun _ _=>rfl,fun _ h=>h,fun _ h=>.inl h,⟨rfl,rfl,rfl,hs,fun b hb=>hold b (hlt b hb),fun b hb _=>hold b hb,fun i l h=>by cases h⟩⟩,hx _ _ _,?_⟩
 have he:∀ (i:Nat) (k:Ob),(RX [] ⟨.e,0⟩).m.get i≠some k:=fun i k h=>by
  have:(RX [] ⟨.e,0⟩).m.get i=none:=Tr.get_e i
  rw [this] at h; cases h
 exact ⟨fun i k h=>(he i k h).elim,fun i j k l b c h _ _ _ _=>(he i k h).elim,fun i k b h _=>(he i k h).elim,fun i b h=>(by cases h),fun b hb=>Nat.lt_of_lt_of_le (hlt b hb) hs,fun i _=>rfl⟩
def nlz:Nat→AV→AV
 | 0,v=>v
 | k+1,v=>match v with | .nils=>.lst [] 0 | .agg c=>.agg (c.map (nlz k)) | .tup c=>.tup (c.map (nlz k)) | v=>v
theorem Gza (k:Nat):nlz k .any=.any:=by cases k <;> rfl
theorem GsW (k:Nat) (c:List AV) (i:Nat):(c.map (nlz k)).getD i .any=nlz k (c.getD i .any):=by
 simp only [List.getD_eq_getElem?_getD,List.getElem?_map]
 cases c[i]? <;> simp [Gza]
theorem G1.nlz {μ:Nat→Option HY} {ro:Nat→Prop} {w:World} {o:Bool}:∀ (k:Nat) {v:AV} {x:Value},G1 μ ro w o v x→G1 μ ro w o (Av.nlz k v) x
 | 0,_,_,h=>h
 | k+1,v,x,h=>by
  unfold Av.nlz
  cases v with
  | nils=>cases h; exact .lstn
  | agg c=>cases h with | agg hn hr=>exact .agg (by simpa using hn) fun i hi=>by rw [GsW]; exact G1.nlz k (hr i (by simpa using hi))
  | tup c=>cases h with | tup hn hr=>exact .tup (by simpa using hn) fun i hi=>by rw [GsW]; exact G1.nlz k (hr i (by simpa using hi))
  | _=>exact h
theorem HA.nl (k:Nat) {f:FuncId} {args:List AV} {r r':AV} {blks:List Hb} (h:HA P G f args r blks) (e:nlz k r=r'):HA P G f args r' blks:=by
 subst e
 intro ro w vs hlt hr hg
 refine (h ro w vs hlt hr hg).mono ?_
 rintro e w' ⟨μ',ro',h1,h2,h3⟩
 refine ⟨μ',ro',h1,?_,h3⟩
 cases e with
 | returned x=>exact G1.nlz k h2
 | _=>exact h2
theorem Gyl {μ:Nat→Option HY} {ro:Nat→Prop} {w:World} {o:Bool} {a b:AV} {vs:Array Value} (h:GQ μ ro w o [a,b] vs.toList):∃ x y,vs=#[x,y]∧G1 μ ro w o a x∧G1 μ ro w o b y:=by
 obtain ⟨l⟩:=vs
 obtain ⟨h1,h2⟩:=h
 match l,h1 with
 | [x,y],_=>exact ⟨x,y,rfl,h2 0 (by simp),h2 1 (by simp)⟩
theorem Gy0 {W:World} (h:∀ g,G g=.any∨∃ name k zs,G g=.rop (zs.map (AV.int k)) 0∧P.globalNamed name=some g∧Go.Lib.TabIs P W name k zs):Xz G (fun _=>none) (fun b=>b<W.heap.size) W:=by
 intro g
 rcases h g with h | ⟨name,k,zs,hG,hn,ht⟩
 ·rw [h]; exact ⟨.any,fun _ h=>by cases h⟩
 ·unfold Go.Lib.TabIs World.var? at ht
  rw [hn] at ht
  simp only [Option.bind_some] at ht
  have key:∃ cs e l,W.heap[g]?=some (.cells cs e l)∧cs=(zs.map fun z=>Value.int k z).toArray:=by
   split at ht
   ·rename_i cs e l hc
    exact ⟨cs,e,l,hc,Option.some.inj ht⟩
   ·cases ht
  obtain ⟨cs,e,l,hc,rfl⟩:=key
  have hlt:g<W.heap.size:=(Array.getElem?_eq_some_iff.1 hc).1
  rw [hG]
  refine ⟨?_,fun c hc'=>?_⟩
  ·refine G1.rop (p:=0) (fun i=>Value.int k (zs.getD i 0)) hlt (fun i hi=>?_) (fun i hi=>?_)
   ·rw [List.length_map] at hi
    simp [World.cell?,hc,List.getElem?_eq_getElem hi]
   ·rw [List.length_map] at hi
    rw [show (zs.map (AV.int k)).getD i .any=.int k (zs.getD i 0) by simp [List.getD_eq_getElem?_getD,List.getElem?_eq_getElem hi]]
    exact .int
  ·injection hc' with h1 _
   subst h1
   exact ⟨hlt,_,e,l,hc,by simp⟩
end Go.Proofs.YtdifanfcaemokaaGreatDoor.Av
set_option linter.unusedVariables false
set_option linter.unusedSimpArgs false
namespace Go.Proofs.YtdifanfcaemokaaGreatDoor.Av
open Go.RowKit
variable {P:Program} {G:Nat→AV} {μ μ':Nat→Option HY} {ro ro':Nat→Prop} {w w':World}
inductive HT (ρ:Type):Prop→Type 1 where
 | leaf {Γ:Prop} (r:ρ) (ids:List Nat):HT ρ Γ
 | off {Γ:Prop}:HT ρ Γ
 | sp {Γ:Prop} (p:Prop) [d:Decidable p] (t:HT ρ (Γ∧p)) (e:HT ρ (Γ∧¬ p)):HT ρ Γ
 | gd {Γ:Prop} (p:Prop) [d:Decidable p] (t:HT ρ (Γ∧p)):HT ρ Γ
 | bd {Γ:Prop} {τ:Type} (o:Option τ) (k:(x:τ)→HT ρ (Γ∧o=some x)):HT ρ Γ
 | cs {Γ:Prop} {α β:Type} (x:α⊕β) (f:(a:α)→HT ρ (Γ∧x=.inl a)) (g:(b:β)→HT ρ (Γ∧x=.inr b)):HT ρ Γ
 | run {Γ:Prop} (hs:List CH) {ps:List Prop} (h:Γ→KX ps) (t:HT ρ Γ):HT ρ Γ
noncomputable def HT.den {ρ:Type} {Γ:Prop}:HT ρ Γ→Option ρ
 | .leaf r _=>some r
 | .off=>none
 | @HT.sp _ _ p d t e=>@ite _ p d t.den e.den
 | @HT.gd _ _ p d t=>@ite _ p d t.den none
 | .bd o k=>o.bind fun x=>(k x).den
 | .cs x f g=>match x with | .inl a=>(f a).den | .inr b=>(g b).den
 | .run _ _ t=>t.den
inductive OT:Type 1 where
 | done
 | no
 | eq {α:Type} (a b:α) (t:OT)
 | bd {τ:Type} (o:Option τ) (k:(x:τ)→o=some x→OT)
 | sp (p:Prop) (t:p→OT) (e:¬ p→OT)
 | gd (p:Prop) (t:p→OT)
 | cs {α β:Type} (x:α⊕β) (f:(a:α)→x=.inl a→OT) (g:(b:β)→x=.inr b→OT)
namespace OT
def holds:OT→Prop
 | .done=>True
 | .no=>False
 | .eq a b t=>a=b∧t.holds
 | .bd o k=>∀ x h,(k x h).holds
 | .sp p t e=>(∀ h,(t h).holds)∧∀ h,(e h).holds
 | .gd p t=>∀ h,(t h).holds
 | .cs x f g=>(∀ a h,(f a h).holds)∧∀ b h,(g b h).holds
noncomputable def L (t:OT):OT:=
 OT.rec (motive:=fun _=>OT) .done .no (fun a _ _ t=>.eq a a t) (fun o _ k=>.bd o k) (fun p _ _ t e=>.sp p t e) (fun p _ t=>.gd p t) (fun x _ _ f g=>.cs x f g) t
noncomputable def R (t:OT):OT:=
 OT.rec (motive:=fun _=>OT) .done .done (fun _ b _ t=>.eq b b t) (fun o _ k=>.bd o k) (fun p _ _ t e=>.sp p t e) (fun p _ t=>.gd p t) (fun x _ _ f g=>.cs x f g) t
theorem holds_of:∀ {t:OT},t.L=t.R→t.holds:=by
 intro t
 induction t with
 | done=>intro _; trivial
 | no=>intro h; cases h
 | eq a b t ih=>
  intro h
  simp only [L,R,OT.eq.injEq,heq_eq_eq,true_and] at h
  exact ⟨h.1,ih h.2.2⟩
 | bd o k ih=>
  intro h
  simp only [L,R,OT.bd.injEq,heq_eq_eq,true_and] at h
  exact fun x hx=>ih x hx (congrFun (congrFun h x) hx)
 | sp p t e ih1 ih2=>
  intro h
  simp only [L,R,OT.sp.injEq,heq_eq_eq,true_and] at h
  exact ⟨fun hp=>ih1 hp (congrFun h.1 hp),fun hp=>ih2 hp (congrFun h.2 hp)⟩
 | gd p t ih=>
  intro h
  simp only [L,R,OT.gd.injEq,heq_eq_eq,true_and] at h
  exact fun hp=>ih hp (congrFun h hp)
 | cs x f g ih1 ih2=>
  intro h
  simp only [L,R,OT.cs.injEq,heq_eq_eq,true_and] at h
  exact ⟨fun a ha=>ih1 a ha (congrFun (congrFun h.1 a) ha),fun b hb=>ih2 b hb (congrFun (congrFun h.2 b) hb)⟩
end OT
structure HX (ρ:Type) where
 {Γ:Prop}
 g:Γ
 hs:List CH
 ps:List Prop
 ok:KX ps
 t:HT ρ Γ
def Gtq:List Prop→List Prop→Option (List Prop×List Prop)
 | [],l=>some ([],l)
 | _::q,p::l=>match Gtq q l with | some (a,b)=>some (p::a,b) | none=>none
 | _::_,[]=>none
theorem Gpw:∀ {q l a b:List Prop},Gtq q l=some (a,b)→l=a++b
 | [],l,a,b,h=>by simp only [Gtq,sJ,Prod.mk.injEq] at h; obtain ⟨rfl,rfl⟩:=h; rfl
 | _::q,p::l,a,b,h=>by
  simp only [Gtq] at h
  split at h
  ·rename_i a' b' h'
   simp only [sJ,Prod.mk.injEq] at h
   obtain ⟨rfl,rfl⟩:=h
   rw [Gpw h']; rfl
  ·cases h
 | _::_,[],_,_,h=>by cases h
theorem Gso {a b l:List Prop} (h:l=a++b) (k:KX l):KX b:=(VH.1 (h ▸ k)).2
noncomputable def HX.owe {ρ:Type} (hx:HX ρ) (hs:List CH) (q:List Prop) (K:HX ρ→OT):OT:=
 match h:Gtq q hx.ps with
 | some (a,b)=>.eq a q (K ⟨hx.g,hs,b,Gso (Gpw h) hx.ok,hx.t⟩)
 | none=>.no
theorem HX.owe_ok {ρ:Type} {hx:HX ρ} {hs:List CH} {q:List Prop} {K:HX ρ→OT} {r:ρ} (h:(hx.owe hs q K).holds) (hr:hx.t.den=some r):
  KX q∧∃ hx1:HX ρ,hx1.hs=hs∧hx1.t.den=some r∧(K hx1).holds:=by
 unfold HX.owe at h
 split at h
 ·rename_i a b hab
  obtain ⟨rfl,h⟩:=h
  exact ⟨(VH.1 (Gpw hab ▸ hx.ok)).1,⟨hx.g,hs,b,_,hx.t⟩,rfl,hr,h⟩
 ·exact h.elim
noncomputable def opnT {ρ:Type} {Γ:Prop} (hs0:List CH) (t:HT ρ Γ):Γ→(ps:List Prop)→KX ps→(HX ρ→OT)→OT:=
 HT.rec (motive:=fun Γ _=>Γ→(ps:List Prop)→KX ps→(HX ρ→OT)→OT)
  (fun r ids g ps ok K=>K ⟨g,hs0,ps,ok,.leaf r ids⟩)
  (fun _ _ _ _=>.done)
  (fun p _ t e it ie g ps ok K=>.sp p (fun h=>it ⟨g,h⟩ ps ok K) (fun h=>ie ⟨g,h⟩ ps ok K))
  (fun p _ t it g ps ok K=>.gd p (fun h=>it ⟨g,h⟩ ps ok K))
  (fun o k ik g ps ok K=>.bd o (fun x h=>ik x ⟨g,h⟩ ps ok K))
  (fun x f g' jf jg g ps ok K=>.cs x (fun a h=>jf a ⟨g,h⟩ ps ok K) (fun b h=>jg b ⟨g,h⟩ ps ok K))
  (fun hs ps' h t _ g ps ok K=>K ⟨g,hs0++hs,ps++ps',VH.2 ⟨ok,h g⟩,t⟩) t
theorem Gzg {ρ:Type} {r:ρ} {hs0:List CH}:∀ {Γ:Prop} {t:HT ρ Γ} {g:Γ} {ps:List Prop} {ok:KX ps} {K:HX ρ→OT},(opnT hs0 t g ps ok K).holds→t.den=some r→
  ∃ hx:HX ρ,hx.t.den=some r∧(K hx).holds:=by
 intro Γ t
 induction t with
 | leaf r' ids=>intro g ps ok K h hr; exact ⟨_,hr,h⟩
 | off=>intro g ps ok K h hr; cases hr
 | sp p t e ih1 ih2=>
  intro g ps ok K h hr
  simp only [HT.den] at hr
  split at hr
  ·rename_i hp; exact ih1 (h.1 hp) hr
  ·rename_i hp; exact ih2 (h.2 hp) hr
 | gd p t ih=>
  intro g ps ok K h hr
  simp only [HT.den] at hr
  split at hr
  ·rename_i hp; exact ih (h hp) hr
  ·cases hr
 | bd o k ih=>
  intro g ps ok K h hr
  simp only [HT.den] at hr
  obtain ⟨x,hx,hr⟩:=Option.bind_eq_some_iff.1 hr
  exact ih x (h x hx) hr
 | cs x f g' ih1 ih2=>
  intro g ps ok K h hr
  cases x with
  | inl a=>exact ih1 a (h.1 a rfl) hr
  | inr b=>exact ih2 b (h.2 b rfl) hr
 | run hs h' t ih=>intro g ps ok K h hr; exact ⟨⟨g,hs0++hs,_,_,t⟩,hr,h⟩
def GzI:List CH→Bool
 | []=>true
 | .tr _::l=>GzI l
 | _=>false
noncomputable def HX.opn {ρ:Type} (hx:HX ρ) (K:HX ρ→OT):OT:=
 match GzI hx.hs with
 | true=>opnT hx.hs hx.t hx.g hx.ps hx.ok K
 | false=>K hx
theorem HX.opn_ok {ρ:Type} {hx:HX ρ} {K:HX ρ→OT} {r:ρ} (h:(hx.opn K).holds) (hr:hx.t.den=some r):∃ hx1:HX ρ,hx1.t.den=some r∧(K hx1).holds:=by
 unfold HX.opn at h
 split at h
 ·exact Gzg h hr
 ·exact ⟨hx,hr,h⟩
abbrev Gp1 (ρ:Type):=Nat→Code→St→HX ρ→(Hm→St→HX ρ→OT)→OT
def TOk (P:Program) (G:Nat→AV) {ρ:Type} (self:Gp1 ρ):Prop:=
 ∀ n c s hx K r,(self n c s hx K).holds→hx.t.den=some r→∃ e s1 hx1,GN P G n c s e s1∧hx1.t.den=some r∧(K e s1 hx1).holds
noncomputable def Gxa {ρ:Type} (evW:GaQ) (n:Nat) (c:Code) (s:St) (hx:HX ρ) (K:Hm→St→HX ρ→OT):OT:=
 match evW n c s hx.hs with
 | some ((e,s1,hs'),q)=>hx.owe hs' q fun hx1=>K e s1 hx1
 | none=>.no
theorem GvY {ρ:Type} {evW:GaQ} (hw:Zs P G evW):TOk P G (Gxa (ρ:=ρ) evW):=by
 intro n c s hx K r h hr
 unfold Gxa at h
 split at h
 ·rename_i e s1 hs' q hev
  obtain ⟨hq,hx1,_,h2,h3⟩:=hx.owe_ok h hr
  exact ⟨e,s1,hx1,hw n c s hx.hs _ _ hev hq,h2,h3⟩
 ·exact h.elim
noncomputable def trs {ρ:Type} (s:St) (hx:HX ρ) (K:St→HX ρ→OT):OT:=
 match GuA hx.hs with
 | false=>K s hx
 | true=>match Gna s hx.hs with | some ((s1,hs'),q)=>hx.owe hs' q fun hx1=>K s1 hx1 | none=>.no
theorem Gvd {ρ:Type} {n:Nat} {s:St} {hx:HX ρ} {K:St→HX ρ→OT} {r:ρ} (h:(trs s hx K).holds) (hr:hx.t.den=some r):∃ s1 hx1,Uc n s s1∧hx1.t.den=some r∧(K s1 hx1).holds:=by
 unfold trs at h
 split at h
 ·exact ⟨s,hx,Uc.refl,hr,h⟩
 ·split at h
  ·rename_i s1 hs' q hev
   obtain ⟨hq,hx1,_,h2,h3⟩:=hx.owe_ok h hr
   exact ⟨s1,hx1,Gd8 hx.hs s _ _ hev hq,h2,h3⟩
  ·exact h.elim
def GAz:List CH→Bool
 | .cut _ _ _ _ _::_=>true
 | .fcut _ _ _ _ _ _ _::_=>true
 | _=>false
noncomputable def tF {ρ:Type} (G:Nat→AV) (evW:GaQ) (self:Gp1 ρ) (n:Nat) (c:Code) (s:St) (hx:HX ρ) (K:Hm→St→HX ρ→OT):OT:=
 match c with
 | .skip=>K .normal s hx
 | .label _=>K .normal s hx
 | .ret=>K .ret s hx
 | .exit id=>K (.exit id) s hx
 | .seq a b=>self n a s hx fun e s1 hx1=>match e with | .normal=>self n b s1 hx1 K | e=>K e s1 hx1
 | .scope b=>self n b s hx K
 | .block id b=>self n b s hx fun e s1 hx1=>K (e.block id) s1 hx1
 | .cond c x y=>hx.opn fun hx=>trs s hx fun s hx=>
  match opd G s c with
  | .bool b=>
   match hx.hs with
   | .br β::hs'=>hx.owe hs' [b=β] fun hx=>match β with | true=>self n x s hx K | false=>self n y s hx K
   | _=>match b with | true=>self n x s hx K | false=>self n y s hx K
  | _=>.no
 | .loop b=>hx.opn fun hx=>trs s hx fun s hx=>
  match GAz hx.hs with
  | true=>Gxa evW n (.loop b) s hx K
  | false=>self n b s hx fun e s1 hx1=>match e with | .normal=>self n (.loop b) s1 hx1 K | e=>K e s1 hx1
 | .region id ops d=>hx.opn fun hx=>Gxa evW n (.region id ops d) s hx K
 | c=>hx.opn fun hx=>Gxa evW n c s hx K
theorem GAE {ρ:Type} {evW:GaQ} {self:Gp1 ρ} (hw:Zs P G evW) (hself:TOk P G self):TOk P G (tF G evW self):=by
 intro n c s hx K r h hr
 have viaW:∀ c,(hx.opn fun hx=>Gxa evW n c s hx K).holds→∃ e s1 hx1,GN P G n c s e s1∧hx1.t.den=some r∧(K e s1 hx1).holds:=fun c h=>by
  obtain ⟨hx1,h1,h2⟩:=HX.opn_ok h hr
  exact GvY hw _ _ _ _ _ _ h2 h1
 cases c with
 | skip=>exact ⟨_,_,_,.skip,hr,h⟩
 | label l=>exact ⟨_,_,_,.label,hr,h⟩
 | ret=>exact ⟨_,_,_,.ret,hr,h⟩
 | exit id=>exact ⟨_,_,_,.exit,hr,h⟩
 | seq a b=>
  obtain ⟨e,s1,hx1,h1,h2,h3⟩:=hself _ _ _ _ _ _ h hr
  cases e with
  | normal=>
   obtain ⟨e2,s2,hx2,k1,k2,k3⟩:=hself _ _ _ _ _ _ h3 h2
   exact ⟨e2,s2,hx2,h1.seq k1,k2,k3⟩
  | _=>exact ⟨_,_,_,h1.seq_out (by simp),h2,h3⟩
 | scope b=>
  obtain ⟨e,s1,hx1,h1,h2,h3⟩:=hself _ _ _ _ _ _ h hr
  exact ⟨_,_,_,h1.scope,h2,h3⟩
 | block id b=>
  obtain ⟨e,s1,hx1,h1,h2,h3⟩:=hself _ _ _ _ _ _ h hr
  exact ⟨_,_,_,h1.block,h2,h3⟩
 | cond c x y=>
  obtain ⟨hx1,h1,h2⟩:=HX.opn_ok h hr
  obtain ⟨s2,hx2,hsub,h3,h4⟩:=Gvd (n:=n) h2 h1
  split at h4
  ·rename_i b hb
   have key:∀ {β:Bool} {hx3:HX ρ},b=β→hx3.t.den=some r→(match β with | true=>self n x s2 hx3 K | false=>self n y s2 hx3 K).holds→
     ∃ e s1 hx1,GN P G n (.cond c x y) s e s1∧hx1.t.den=some r∧(K e s1 hx1).holds:=fun {β hx3} hbe h5 h6=>by
    subst hbe
    cases b with
    | true=>
     obtain ⟨e,s1,hx4,k1,k2,k3⟩:=hself _ _ _ _ _ _ h6 h5
     exact ⟨_,_,_,(GN.cond hb k1).pre hsub,k2,k3⟩
    | false=>
     obtain ⟨e,s1,hx4,k1,k2,k3⟩:=hself _ _ _ _ _ _ h6 h5
     exact ⟨_,_,_,(GN.cond hb k1).pre hsub,k2,k3⟩
   split at h4
   ·rename_i β hs' hhs
    obtain ⟨hq,hx3,_,h5,h6⟩:=HX.owe_ok h4 h3
    exact key hq h5 h6
   ·exact key rfl h3 h4
  ·exact h4.elim
 | loop b=>
  obtain ⟨hx1,h1,h2⟩:=HX.opn_ok h hr
  obtain ⟨s2,hx2,hsub,h3,h4⟩:=Gvd (n:=n) h2 h1
  split at h4
  ·obtain ⟨e,s1,hx4,k1,k2,k3⟩:=GvY hw _ _ _ _ _ _ h4 h3
   exact ⟨_,_,_,k1.pre hsub,k2,k3⟩
  ·obtain ⟨e,s1,hx4,k1,k2,k3⟩:=hself _ _ _ _ _ _ h4 h3
   cases e with
   | normal=>
    obtain ⟨e2,s2,hx5,j1,j2,j3⟩:=hself _ _ _ _ _ _ k3 k2
    exact ⟨_,_,_,(k1.loop j1).pre hsub,j2,j3⟩
   | _=>exact ⟨_,_,_,(k1.loop_out (by simp)).pre hsub,k2,k3⟩
 | _=>exact viaW _ h
noncomputable def tev (P:Program) (G:Nat→AV) (ρ:Type) (fuel:Nat):Gp1 ρ:=
 Nat.rec (motive:=fun _=>Gp1 ρ) (fun _ _ _ _ _=>.no) (fun k self=>tF G (ev P G fuel) self) fuel
theorem GyA (P:Program) (G:Nat→AV) (ρ:Type) (fuel:Nat):TOk P G (tev P G ρ fuel):=by
 have key:∀ k,TOk P G (Nat.rec (motive:=fun _=>Gp1 ρ) (fun _ _ _ _ _=>.no) (fun k self=>tF G (ev P G fuel) self) k):=by
  intro k
  induction k with
  | zero=>intro n c s hx K r h; exact h.elim
  | succ k ih=>exact GAE (GvC P G fuel) ih
 exact key fuel
noncomputable def Gz1 {ρ:Type} (s:St) (hx:HX ρ) (K:St→ρ→List Nat→OT):OT:=
 hx.opn fun hx=>trs s hx fun s hx=>match hx.t with | .leaf r ids=>K s r ids | _=>.no
theorem GvG {ρ:Type} {n:Nat} {s:St} {hx:HX ρ} {K:St→ρ→List Nat→OT} {r:ρ} (h:(Gz1 s hx K).holds) (hr:hx.t.den=some r):∃ s1 ids,Uc n s s1∧(K s1 r ids).holds:=by
 obtain ⟨hx1,h1,h2⟩:=HX.opn_ok h hr
 obtain ⟨s2,hx2,hsub,h3,h4⟩:=Gvd (n:=n) h2 h1
 split at h4
 ·rename_i Γ r' ids heq
  have:r'=r:=by
   have:=h3
   revert this
   cases hx2 with
   | mk g hs ps ok t=>
    simp only at heq ⊢
    intro h
    rename_i Γ'
    cases t <;> simp only [HT.leaf.injEq,reduceCtorEq] at heq
    obtain ⟨rfl,_⟩:=heq
    exact Option.some.inj h
  subst this
  exact ⟨s2,ids,hsub,h4⟩
 ·exact h4.elim
end Go.Proofs.YtdifanfcaemokaaGreatDoor.Av
set_option linter.unusedVariables false
set_option linter.unusedSimpArgs false
namespace Go.Proofs.YtdifanfcaemokaaGreatDoor.Av
open Go.RowKit
variable {P:Program} {G:Nat→AV} {μ μ':Nat→Option HY} {ro ro':Nat→Prop} {w w':World}
abbrev PS:=Nat×List (Nat×AV)×List Hb
def PS.st (p:PS):St:=S p.1 p.2.1 p.2.2
def endB:Hm→Bool
 | .normal=>true
 | .ret=>true
 | _=>false
theorem Gsx {f:FuncId} {fn:Func} {c:Code} {args:List AV} {h:Hp} {e:Hm} {s:St} {v:AV} (hf:P.funcs[f]?=some fn) (hb:fn.body=some c)
  (hd:GN P G h.nx c ⟨Gdb args 0 .e,args.length+(fn.ntmps - args.length),h,[]⟩ e s) (he:endB e=true) (hdf:s.df=[]) (hr:Gv7 P s fn.results.toList=some (v,[])):
  Hn P G f args h (.ret v) s.hp:=by
 intro μ ro w vs ha hh hg
 refine GkM hf hb (wp_mono (hd μ ro _ w (GqD ha hh hg)) fun e' a w1 hp=>?_)
 obtain ⟨μ',ro',h1,h2,h3⟩:=hp
 have hdf':a.defers=[]:=by
  have:=h3.df
  rw [hdf] at this
  cases hq:a.defers with
  | nil=>rfl
  | cons x y=>rw [hq] at this; exact this.elim
 obtain ⟨x,h4,h5⟩:=GkG (fn:=fn) h3 _ _ hr trivial
 cases e with
 | normal=>
  cases e' <;> simp only [Vd] at h2
  simp only [bodyPostM,hdf']
  exact ⟨x,h4,μ',ro',h1,h5,h3.hp⟩
 | ret=>
  cases e' <;> simp only [Vd] at h2
  simp only [bodyPostM,hdf']
  exact ⟨x,h4,μ',ro',h1,h5,h3.hp⟩
 | _=>cases he
def msk (p v:AV):AV:=
 match p,v with
 | .tup ps,.tup vs=>match Nat.beq ps.length vs.length with | true=>.tup (List.zipWith (fun p v=>match p with | .any=>.any | _=>v) ps vs) | false=>.tup vs
 | _,v=>v
theorem G1.msk {p v:AV} {x:Value} {o:Bool} (h:G1 μ ro w o v x):G1 μ ro w o (Av.msk p v) x:=by
 unfold Av.msk
 split
 ·rename_i ps vs
  split
  ·rename_i hl
   have hl:=Nat.eq_of_beq_eq_true hl
   cases h with
   | tup hn hr=>
    refine .tup (by simp [hl,hn]) fun i hi=>?_
    simp only [List.length_zipWith,hl,Nat.min_self] at hi
    have h1:=hr i hi
    have h2:i<ps.length:=by omega
    simp only [List.getD_eq_getElem?_getD,List.getElem?_zipWith,List.getElem?_eq_getElem hi,List.getElem?_eq_getElem h2,Option.getD_some] at h1 ⊢
    cases ps[i] <;> first | exact .any | exact h1
  ·exact h
 ·exact h
theorem Hn.msk (p:AV) {f:FuncId} {args:List AV} {h h':Hp} {v:AV} (hd:Hn P G f args h (.ret v) h'):Hn P G f args h (.ret (Av.msk p v)) h':=by
 intro μ ro w vs ha hh hg
 refine (hd μ ro w vs ha hh hg).mono ?_
 rintro e w' ⟨μ',ro',h1,h2,h3⟩
 refine ⟨μ',ro',h1,?_,h3⟩
 cases e with
 | returned x=>exact G1.msk h2
 | _=>exact h2.elim
theorem Hn.nl (k:Nat) {f:FuncId} {args:List AV} {h h':Hp} {v:AV} (hd:Hn P G f args h (.ret v) h'):Hn P G f args h (.ret (nlz k v)) h':=by
 intro μ ro w vs ha hh hg
 refine (hd μ ro w vs ha hh hg).mono ?_
 rintro e w' ⟨μ',ro',h1,h2,h3⟩
 refine ⟨μ',ro',h1,?_,h3⟩
 cases e with
 | returned x=>exact G1.nlz k h2
 | _=>exact h2.elim
theorem HA.of_calldoes {f:FuncId} {args:List AV} {v r:AV} {h':Hp} {blks:List Hb} (ρ:List Nat) (hd:Hn P G f args ⟨.e,0⟩ (.ret v) h')
  (hv:v=ren ρ 4 r) (hb:Rf h'.m ρ ρ blks) (hc:okR ρ r blks=true):HA P G f args r blks:=by
 intro ro w vs hro ha hg
 simp only [okR,Bool.and_eq_true] at hc
 refine (hd (fun _=>none) ro w vs ha.up ⟨fun i k h=>by simp [Tr.get] at h,fun i j k l b c h=>by simp [Tr.get] at h,fun i k b h=>by simp [Tr.get] at h,fun i b h=>by simp at h,hro,fun i _=>rfl⟩ hg).mono ?_
 rintro e w1 ⟨μ',ro',hup,hco,hh⟩
 refine ⟨Xj ρ μ',ro',⟨fun i hi=>absurd hi (Nat.not_lt_zero i),hup.up,hup.nw,⟨hup.fr.os,hup.fr.tape,hup.fr.output,hup.fr.size,hup.fr.block,hup.fr.rest,fun i l hi=>?_⟩⟩,?_,hh.ren hb hc.1.1 hc.1.2 (fun i hi=>if_pos hi) (fun i hi=>if_neg (by omega))⟩
 ·unfold Xj at hi
  split at hi
  ·exact hup.fr.new _ l hi
  ·cases hi
 ·cases e <;> simp only [GdY] at hco ⊢
  subst hv
  exact QY (fun i hi=>if_pos hi) 4 hc.2 hco
theorem Kl.of_calldoes {m:Nat} {f:FuncId} {args:List AV} {blks blks':List Hb} {v r:AV} {h':Hp} (ρ:List Nat) (hd:Hn P G f args (RX blks ⟨.e,0⟩) (.ret v) h')
  (hv:v=ren ρ 4 r) (hb:Rf h'.m ρ ρ blks') (hc:(okR ρ r blks'&&idM ρ m&&Nat.ble m blks.length)=true):Kl P G m f args blks r blks':=by
 intro μ ro w vs ha hh hg
 subst hv
 simp only [Bool.and_eq_true,okR] at hc
 obtain ⟨⟨⟨⟨hc1,hc2⟩,hc3⟩,hid⟩,hm⟩:=hc
 have hm:=nB hm
 have hid:=GeS hid
 have hnx:(RX blks ⟨.e,0⟩).nx=blks.length:=by
  have:=(Kw blks ⟨.e,0⟩ 0).1
  simp only [Nat.zero_add] at this
  exact this
 refine (hd μ ro w vs ha hh hg).mono ?_
 rintro e w1 ⟨μ',ro',hup,hco,hh1⟩
 refine ⟨Xj ρ μ',ro',⟨fun i hi=>?_,hup.up,hup.nw,⟨hup.fr.os,hup.fr.tape,hup.fr.output,hup.fr.size,hup.fr.block,hup.fr.rest,fun i l hi=>?_⟩⟩,?_,hh1.ren hb hc1 hc2 (fun i hi=>if_pos hi) (fun i hi=>if_neg (by omega))⟩
 ·unfold Xj
  rw [if_pos (hid i hi).1,(hid i hi).2]
  exact hup.ag i (by rw [hnx]; omega)
 ·unfold Xj at hi
  split at hi
  ·exact hup.fr.new _ l hi
  ·cases hi
 ·cases e <;> simp only [GdY] at hco ⊢
  exact QY (fun i hi=>if_pos hi) 4 hc3 hco
noncomputable def tFn (P:Program) (G:Nat→AV) {ρ:Type} (fuel:Nat) (f:FuncId) (args:List AV) (h:Hp) (t:HT ρ True) (R:ρ→AV) (B:ρ→List Hb) (more:List Nat→Bool):OT:=
 match P.funcs[f]? with
 | some fn=>
  match fn.body with
  | some c=>
   tev P G ρ fuel h.nx c ⟨Gdb args 0 .e,args.length+(fn.ntmps - args.length),h,[]⟩ ⟨trivial,[],[],trivial,t⟩ fun e s hx=>
    Gz1 s hx fun s r ids=>
     match endB e,s.df with
     | true,[]=>
      match Gv7 P s fn.results.toList with
      | some (v,[])=>.eq (msk (R r) (nlz 4 v),ids.map s.hp.m.get) (ren ids 4 (R r),(B r).map fun b=>some (KO ids b).ob) (.eq (okR ids (R r) (B r)&&more ids) true .done)
      | _=>.no
     | _,_=>.no
  | none=>.no
 | none=>.no
theorem Gyx {ρ:Type} {fuel:Nat} {f:FuncId} {args:List AV} {h:Hp} {t:HT ρ True} {R:ρ→AV} {B:ρ→List Hb} {more:List Nat→Bool} (hk:(tFn P G fuel f args h t R B more).holds) {r:ρ} (hr:t.den=some r):
  ∃ v h' ids,Hn P G f args h (.ret v) h'∧v=ren ids 4 (R r)∧Rf h'.m ids ids (B r)∧okR ids (R r) (B r)=true∧more ids=true:=by
 unfold tFn at hk
 split at hk
 ·rename_i fn hf
  split at hk
  ·rename_i c hb
   obtain ⟨e,s1,hx1,h1,h2,h3⟩:=GyA P G ρ fuel _ _ _ _ _ _ hk hr
   obtain ⟨s2,ids,hsub,h4⟩:=GvG (n:=h.nx) h3 h2
   split at h4
   ·rename_i he hdf
    split at h4
    ·rename_i v hv
     obtain ⟨h5,h6,_⟩:=h4
     simp only [Prod.mk.injEq] at h5
     simp only [Bool.and_eq_true] at h6
     have hq:∀ v,e≠.panic v:=fun v hv=>by rw [hv] at he; cases he
     exact ⟨_,s2.hp,ids,(Gsx hf hb (h1.post hq hsub) he hdf hv).nl 4 |>.msk (R r),h5.1,XZ h5.2,h6.1,h6.2⟩
    ·exact h4.elim
   ·exact h4.elim
  ·exact hk.elim
 ·exact hk.elim
theorem HA.of_ht (fuel:Nat) {ρ:Type} {f:FuncId} {args:List AV} (t:HT ρ True) (R:ρ→AV) (B:ρ→List Hb)
  (hk:(tFn P G fuel f args ⟨.e,0⟩ t R B fun _=>true).L=(tFn P G fuel f args ⟨.e,0⟩ t R B fun _=>true).R) {r:ρ} (hr:t.den=some r):HA P G f args (R r) (B r):=by
 obtain ⟨v,h',ids,h1,h2,h3,h4,_⟩:=Gyx (OT.holds_of hk) hr
 exact HA.of_calldoes ids h1 h2 h3 h4
theorem Kl.of_ht (m fuel:Nat) {ρ:Type} {f:FuncId} {args:List AV} {blks:List Hb} (t:HT ρ True) (R:ρ→AV) (B:ρ→List Hb)
  (hk:(tFn P G fuel f args (RX blks ⟨.e,0⟩) t R B fun ids=>idM ids m&&Nat.ble m blks.length).L=(tFn P G fuel f args (RX blks ⟨.e,0⟩) t R B fun ids=>idM ids m&&Nat.ble m blks.length).R)
  {r:ρ} (hr:t.den=some r):Kl P G m f args blks (R r) (B r):=by
 obtain ⟨v,h',ids,h1,h2,h3,h4,h5⟩:=Gyx (OT.holds_of hk) hr
 exact Kl.of_calldoes ids h1 h2 h3 (by rw [h4]; simpa using h5)
theorem eS {α:Type} {o:Option α} {q x:α} (h:o=some q) (k:q=x):o=some x:=k ▸ h
noncomputable def tDo (P:Program) (G:Nat→AV) {ρ:Type} (m fuel:Nat) (c:Code) (s:St) (t:HT ρ True) (X:ρ→Hm) (E:ρ→PS) (N:ρ→Bool):OT:=
 tev P G ρ fuel m c s ⟨trivial,[],[],trivial,t⟩ fun e s hx=>
  Gz1 s hx fun s r ids=>
   .eq (e,((E r).2.1.map (·.1)).map s.tm.get,ids.map s.hp.m.get,s.nt,s.df.isEmpty) (X r,(E r).2.1.map (fun x=>some (ren ids 4 x.2)),(E r).2.2.map (fun b=>some (KO ids b).ob),(E r).1,true)
    (.eq (okS ids (E r).2.1 (E r).2.2&&idM ids m&&(X r).quiet&&N r) true .done)
theorem Gu9 {ρ:Type} {m fuel:Nat} {c:Code} {s:St} {t:HT ρ True} {X:ρ→Hm} {E:ρ→PS} {N:ρ→Bool} (hk:(tDo P G m fuel c s t X E N).holds) {r:ρ} (hr:t.den=some r):
  GN P G m c s (X r) (E r).st∧N r=true:=by
 unfold tDo at hk
 obtain ⟨e,s1,hx1,h1,h2,h3⟩:=GyA P G ρ fuel _ _ _ _ _ _ hk hr
 obtain ⟨s2,ids,hsub,h5,h6,_⟩:=GvG (n:=m) h3 h2
 simp only [Prod.mk.injEq] at h5
 simp only [Bool.and_eq_true] at h6
 obtain ⟨rfl,h5,h7,h8,h9⟩:=h5
 have hq:∀ v,X r≠.panic v:=fun v hv=>by rw [hv] at h6; simp [Hm.quiet] at h6
 refine ⟨(h1.post hq hsub).post hq (Uc.of_renM ids h8 (List.isEmpty_iff.1 h9) (Gl2 h5) (XZ h7) ?_ m (GeS h6.1.1.2)),h6.2⟩
 have:=h6.1.1.1
 simp only [okS,Bool.and_eq_true] at this ⊢
 exact this
theorem GN.of_ht (m fuel:Nat) {ρ:Type} {c:Code} {s:St} (t:HT ρ True) (X:ρ→Hm) (E:ρ→PS) (hk:(tDo P G m fuel c s t X E fun _=>true).L=(tDo P G m fuel c s t X E fun _=>true).R) {r:ρ} (hr:t.den=some r):
  GN P G m c s (X r) (E r).st:=(Gu9 (OT.holds_of hk) hr).1
def Hm.out:Hm→Bool
 | .normal=>false
 | _=>true
theorem GN.lp_ht (m fuel:Nat) {σ ρ:Type} {b:Code} (H:σ→PS) (X:ρ→Hm) (E:ρ→PS) (t:σ→HT (σ⊕ρ) True)
  (hk:∀ s,(tDo P G m fuel b (H s).st (t s) (Sum.elim (fun _=>.normal) X) (Sum.elim H E) (Sum.elim (fun _=>true) fun r=>(X r).out)).L=(tDo P G m fuel b (H s).st (t s) (Sum.elim (fun _=>.normal) X) (Sum.elim H E) (Sum.elim (fun _=>true) fun r=>(X r).out)).R)
  {s:σ} {r:ρ} (hr:Go.Proofs.YtdifanfcaemokaaGreatDoor.Av.lp (fun s=>(t s).den) s=some r):GN P G m (.loop b) (H s).st (X r) (E r).st:=by
 refine GN.lp (H:=fun s=>(H s).st) (X:=X) (E:=fun r=>(E r).st) (fun s s' h=>(Gu9 (OT.holds_of (hk s)) h).1) (fun s r h=>?_) hr
 obtain ⟨h1,h2⟩:=Gu9 (OT.holds_of (hk s)) h
 refine ⟨h1,fun h=>?_⟩
 simp only [Sum.elim_inr] at h2
 rw [h] at h2
 cases h2
theorem tT:true=true:=rfl
theorem fF:false=false:=rfl
abbrev oN (h:Hu):CH:=.op none h
abbrev rN (l:List AV) (v:AV) (b:List Hb):CH:=.ret none l v b
theorem Ja {b:Bool} (h:¬ b=true):b=false:=eq_false_of_ne_true h
theorem G0 {x p a0 a1 a2:Prop} (h:(((x∧p)∧a0)∧a1)∧a2):p:=h.1.1.1.2
theorem HW {x p a0 a1 a2 a3:Prop} (h:((((x∧p)∧a0)∧a1)∧a2)∧a3):p:=h.1.1.1.1.2
theorem RA {x p a0 a1 a2 a3 a4:Prop} (h:(((((x∧p)∧a0)∧a1)∧a2)∧a3)∧a4):p:=h.1.1.1.1.1.2
theorem yA6 {x p a0 a1 a2 a3 a4 a5:Prop} (h:((((((x∧p)∧a0)∧a1)∧a2)∧a3)∧a4)∧a5):p:=h.1.1.1.1.1.1.2
theorem RB {x p a0 a1 a2 a3 a4 a5 a6:Prop} (h:(((((((x∧p)∧a0)∧a1)∧a2)∧a3)∧a4)∧a5)∧a6):p:=h.1.1.1.1.1.1.1.2
theorem yA8 {x p a0 a1 a2 a3 a4 a5 a6 a7:Prop} (h:((((((((x∧p)∧a0)∧a1)∧a2)∧a3)∧a4)∧a5)∧a6)∧a7):p:=h.1.1.1.1.1.1.1.1.2
theorem yA9 {x p a0 a1 a2 a3 a4 a5 a6 a7 a8:Prop} (h:(((((((((x∧p)∧a0)∧a1)∧a2)∧a3)∧a4)∧a5)∧a6)∧a7)∧a8):p:=h.1.1.1.1.1.1.1.1.1.2
theorem Gm1 {x p a0 a1 a2 a3 a4 a5 a6 a7 a8 a9:Prop} (h:((((((((((x∧p)∧a0)∧a1)∧a2)∧a3)∧a4)∧a5)∧a6)∧a7)∧a8)∧a9):p:=h.1.1.1.1.1.1.1.1.1.1.2
theorem Gxb {x p a0 a1 a2 a3 a4 a5 a6 a7 a8 a9 a10:Prop} (h:(((((((((((x∧p)∧a0)∧a1)∧a2)∧a3)∧a4)∧a5)∧a6)∧a7)∧a8)∧a9)∧a10):p:=h.1.1.1.1.1.1.1.1.1.1.1.2
theorem Gvp {x p a0 a1 a2 a3 a4 a5 a6 a7 a8 a9 a10 a11:Prop} (h:((((((((((((x∧p)∧a0)∧a1)∧a2)∧a3)∧a4)∧a5)∧a6)∧a7)∧a8)∧a9)∧a10)∧a11):p:=h.1.1.1.1.1.1.1.1.1.1.1.1.2
theorem GyD {x p a0 a1 a2 a3 a4 a5 a6 a7 a8 a9 a10 a11 a12:Prop} (h:(((((((((((((x∧p)∧a0)∧a1)∧a2)∧a3)∧a4)∧a5)∧a6)∧a7)∧a8)∧a9)∧a10)∧a11)∧a12):p:=h.1.1.1.1.1.1.1.1.1.1.1.1.1.2
theorem Gzw {x p a0 a1 a2 a3 a4 a5 a6 a7 a8 a9 a10 a11 a12 a13:Prop} (h:((((((((((((((x∧p)∧a0)∧a1)∧a2)∧a3)∧a4)∧a5)∧a6)∧a7)∧a8)∧a9)∧a10)∧a11)∧a12)∧a13):p:=h.1.1.1.1.1.1.1.1.1.1.1.1.1.1.2
theorem Gzx {x p a0 a1 a2 a3 a4 a5 a6 a7 a8 a9 a10 a11 a12 a13 a14:Prop} (h:(((((((((((((((x∧p)∧a0)∧a1)∧a2)∧a3)∧a4)∧a5)∧a6)∧a7)∧a8)∧a9)∧a10)∧a11)∧a12)∧a13)∧a14):p:=h.1.1.1.1.1.1.1.1.1.1.1.1.1.1.1.2
theorem Gzy {x p a0 a1 a2 a3 a4 a5 a6 a7 a8 a9 a10 a11 a12 a13 a14 a15:Prop} (h:((((((((((((((((x∧p)∧a0)∧a1)∧a2)∧a3)∧a4)∧a5)∧a6)∧a7)∧a8)∧a9)∧a10)∧a11)∧a12)∧a13)∧a14)∧a15):p:=h.1.1.1.1.1.1.1.1.1.1.1.1.1.1.1.1.2
theorem Gix {x p a0 a1 a2 a3 a4 a5 a6 a7 a8 a9 a10 a11 a12 a13 a14 a15 a16:Prop} (h:(((((((((((((((((x∧p)∧a0)∧a1)∧a2)∧a3)∧a4)∧a5)∧a6)∧a7)∧a8)∧a9)∧a10)∧a11)∧a12)∧a13)∧a14)∧a15)∧a16):p:=h.1.1.1.1.1.1.1.1.1.1.1.1.1.1.1.1.1.2
theorem Gzz {x p a0 a1 a2 a3 a4 a5 a6 a7 a8 a9 a10 a11 a12 a13 a14 a15 a16 a17:Prop} (h:((((((((((((((((((x∧p)∧a0)∧a1)∧a2)∧a3)∧a4)∧a5)∧a6)∧a7)∧a8)∧a9)∧a10)∧a11)∧a12)∧a13)∧a14)∧a15)∧a16)∧a17):p:=h.1.1.1.1.1.1.1.1.1.1.1.1.1.1.1.1.1.1.2
theorem Giy {x p a0 a1 a2 a3 a4 a5 a6 a7 a8 a9 a10 a11 a12 a13 a14 a15 a16 a17 a18:Prop} (h:(((((((((((((((((((x∧p)∧a0)∧a1)∧a2)∧a3)∧a4)∧a5)∧a6)∧a7)∧a8)∧a9)∧a10)∧a11)∧a12)∧a13)∧a14)∧a15)∧a16)∧a17)∧a18):p:=h.1.1.1.1.1.1.1.1.1.1.1.1.1.1.1.1.1.1.1.2
theorem GzA {x p a0 a1 a2 a3 a4 a5 a6 a7 a8 a9 a10 a11 a12 a13 a14 a15 a16 a17 a18 a19:Prop} (h:((((((((((((((((((((x∧p)∧a0)∧a1)∧a2)∧a3)∧a4)∧a5)∧a6)∧a7)∧a8)∧a9)∧a10)∧a11)∧a12)∧a13)∧a14)∧a15)∧a16)∧a17)∧a18)∧a19):p:=h.1.1.1.1.1.1.1.1.1.1.1.1.1.1.1.1.1.1.1.1.2
theorem GzB {x p a0 a1 a2 a3 a4 a5 a6 a7 a8 a9 a10 a11 a12 a13 a14 a15 a16 a17 a18 a19 a20:Prop} (h:(((((((((((((((((((((x∧p)∧a0)∧a1)∧a2)∧a3)∧a4)∧a5)∧a6)∧a7)∧a8)∧a9)∧a10)∧a11)∧a12)∧a13)∧a14)∧a15)∧a16)∧a17)∧a18)∧a19)∧a20):p:=h.1.1.1.1.1.1.1.1.1.1.1.1.1.1.1.1.1.1.1.1.1.2
theorem GzC {x p a0 a1 a2 a3 a4 a5 a6 a7 a8 a9 a10 a11 a12 a13 a14 a15 a16 a17 a18 a19 a20 a21:Prop} (h:((((((((((((((((((((((x∧p)∧a0)∧a1)∧a2)∧a3)∧a4)∧a5)∧a6)∧a7)∧a8)∧a9)∧a10)∧a11)∧a12)∧a13)∧a14)∧a15)∧a16)∧a17)∧a18)∧a19)∧a20)∧a21):p:=h.1.1.1.1.1.1.1.1.1.1.1.1.1.1.1.1.1.1.1.1.1.1.2
theorem GzD {x p a0 a1 a2 a3 a4 a5 a6 a7 a8 a9 a10 a11 a12 a13 a14 a15 a16 a17 a18 a19 a20 a21 a22:Prop} (h:(((((((((((((((((((((((x∧p)∧a0)∧a1)∧a2)∧a3)∧a4)∧a5)∧a6)∧a7)∧a8)∧a9)∧a10)∧a11)∧a12)∧a13)∧a14)∧a15)∧a16)∧a17)∧a18)∧a19)∧a20)∧a21)∧a22):p:=h.1.1.1.1.1.1.1.1.1.1.1.1.1.1.1.1.1.1.1.1.1.1.1.2
end Go.Proofs.YtdifanfcaemokaaGreatDoor.Av
set_option linter.unusedVariables false
namespace Go.Proofs.YtdifanfcaemokaaGreatDoor.Av
end Go.Proofs.YtdifanfcaemokaaGreatDoor.Av
set_option linter.unusedVariables false
namespace Go.Proofs.YtdifanfcaemokaaGreatDoor.Av
def GJ {α ρ:Type} (g:Nat→α→Option ρ):Nat→List α→Option ρ
 | _,[]=>none
 | k,x::l=>match g k x with | some r=>some r | none=>GJ g (k+1) l
def HQ {α:Type}:Option α→α⊕Unit
 | some a=>.inl a
 | none=>.inr ()
def K0 {σ α:Type} (s:σ):Option α→σ⊕(α⊕Unit)
 | some a=>.inr (.inl a)
 | none=>.inl s
theorem GoV {α ρ:Type} {l:List α} {step:Nat→Option (Nat⊕(ρ⊕Unit))} {g:Nat→α→Option ρ} (hs:∀ k x,l[k]?=some x→step k=some (K0 (k+1) (g k x))) (he:step l.length=some (.inr (.inr ()))):
  ∀ (m k:Nat),k+m=l.length→lp step k=some (HQ (GJ g k (l.drop k)))
 | 0,k,h=>by
  obtain rfl:k=l.length:=by omega
  rw [Gbl he,List.drop_length]; rfl
 | m+1,k,h=>by
  have hlt:k<l.length:=by omega
  have h1:=hs k l[k] (List.getElem?_eq_getElem hlt)
  rw [List.drop_eq_getElem_cons hlt]
  unfold GJ
  cases hg:g k l[k] with
  | some r=>rw [hg] at h1; exact Gbl h1
  | none=>rw [hg] at h1; rw [GoW h1]; exact GoV hs he m (k+1) (by omega)
theorem GP {α ρ:Type} {l:List α} {step:Nat→Option (Nat⊕(ρ⊕Unit))} {g:Nat→α→Option ρ} (hs:∀ k x,l[k]?=some x→step k=some (K0 (k+1) (g k x))) (he:step l.length=some (.inr (.inr ()))):
  lp step 0=some (HQ (GJ g 0 l)):=GoV hs he l.length 0 (by omega)
theorem Hq {α ρ:Type} {p:α→Bool} {r:ρ}:∀ (l:List α) (k:Nat),GJ (fun _ x=>if p x then some r else none) k l=if l.any p then some r else none
 | [],k=>rfl
 | x::l,k=>by
  unfold GJ
  cases h:p x <;> simp [h,Hq l]
theorem Hl {α:Type} {l:List α} {k:Nat} {x:α} (h:l[k]?=some x):k<l.length:=(List.getElem?_eq_some_iff.1 h).1
abbrev Sm {α:Type} (l:List α):Prop:=l.length≤1000000000000000
theorem Mh {x:Int} (h1 : -9223372036854775808≤x) (h2:x≤9223372036854775807):GS .i64 x:=⟨h1,h2⟩
theorem JW {α ρ:Type} {l:List α} {n:Nat} (hn:n≤l.length) {step:Nat→Option (Nat⊕(ρ⊕Unit))} {g:Nat→α→Option ρ} (hs:∀ k x,k<n→l[k]?=some x→step k=some (K0 (k+1) (g k x))) (he:step n=some (.inr (.inr ()))):
  lp step 0=some (HQ (GJ g 0 (l.take n))):=by
 have hl:(l.take n).length=n:=by rw [List.length_take]; omega
 refine GP (l:=l.take n) (fun k x hx=>?_) (by rw [hl]; exact he)
 have hk:=Hl hx
 rw [hl] at hk
 rw [List.getElem?_take,if_pos hk] at hx
 exact hs k x hk hx
theorem d1 {ρ:Type} {Γ:Prop} {r:ρ} {ids:List Nat}:(HT.leaf r ids:HT ρ Γ).den=some r:=rfl
theorem d2 {ρ:Type} {Γ:Prop}:(HT.off:HT ρ Γ).den=none:=rfl
theorem d3 {ρ:Type} {Γ p:Prop} [Decidable p] {t:HT ρ (Γ∧p)} {e:HT ρ (Γ∧¬ p)}:(HT.sp p t e).den=if p then t.den else e.den:=rfl
theorem d4 {ρ:Type} {Γ p:Prop} [Decidable p] {t:HT ρ (Γ∧p)}:(HT.gd p t).den=if p then t.den else none:=rfl
theorem d5 {ρ τ:Type} {Γ:Prop} {o:Option τ} {k:(x:τ)→HT ρ (Γ∧o=some x)}:(HT.bd o k).den=o.bind fun x=>(k x).den:=rfl
theorem d6 {ρ:Type} {Γ:Prop} {hs:List CH} {ps:List Prop} {h:Γ→KX ps} {t:HT ρ Γ}:(HT.run hs h t).den=t.den:=rfl
theorem d7 {ρ α β:Type} {Γ:Prop} {x:α⊕β} {f:(a:α)→HT ρ (Γ∧x=.inl a)} {g:(b:β)→HT ρ (Γ∧x=.inr b)}:(HT.cs x f g).den=Sum.elim (fun a=>(f a).den) (fun b=>(g b).den) x:=by
 cases x <;> rfl
theorem dA:(∀ {ρ:Type} {Γ:Prop} {r:ρ} {ids:List Nat},(HT.leaf r ids:HT ρ Γ).den=some r)∧(∀ {ρ:Type} {Γ:Prop},(HT.off:HT ρ Γ).den=none)∧
  (∀ {ρ:Type} {Γ p:Prop} [Decidable p] {t:HT ρ (Γ∧p)} {e:HT ρ (Γ∧¬ p)},(HT.sp p t e).den=if p then t.den else e.den)∧
  (∀ {ρ:Type} {Γ p:Prop} [Decidable p] {t:HT ρ (Γ∧p)},(HT.gd p t).den=if p then t.den else none)∧
  (∀ {ρ τ:Type} {Γ:Prop} {o:Option τ} {k:(x:τ)→HT ρ (Γ∧o=some x)},(HT.bd o k).den=o.bind fun x=>(k x).den)∧
  (∀ {ρ:Type} {Γ:Prop} {hs:List CH} {ps:List Prop} {h:Γ→KX ps} {t:HT ρ Γ},(HT.run hs h t).den=t.den)∧
  ∀ {ρ α β:Type} {Γ:Prop} {x:α⊕β} {f:(a:α)→HT ρ (Γ∧x=.inl a)} {g:(b:β)→HT ρ (Γ∧x=.inr b)},(HT.cs x f g).den=Sum.elim (fun a=>(f a).den) (fun b=>(g b).den) x:=
 ⟨d1,d2,d3,d4,d5,d6,d7⟩
theorem Hd {α β:Type} {a:α} {f:α→Option β}:(some a).bind f=f a:=rfl
theorem eN {α β γ:Type} {f:α→γ} {g:β→γ} {a:α}:Sum.elim f g (.inl a)=f a:=rfl
theorem eM {α β γ:Type} {f:α→γ} {g:β→γ} {b:β}:Sum.elim f g (.inr b)=g b:=rfl
theorem sm1 {α:Type} {l:List α} {k:Nat} (hl:Sm l) (hk:k<l.length):GS .i64 ((k:Int)+1):=Mh (by omega) (by omega)
theorem Gns {α ρ β σ τ υ:Type} {l:List α} {mk:Nat→β→σ} {step:σ→Option (σ⊕(τ⊕υ))} {g:Nat→α→Option ρ} {out:τ→ρ} (I:Nat→β→Prop)
  (hs:∀ k x b,l[k]?=some x→I k b→(∃ r q,g k x=some r∧step (mk k b)=some (.inr (.inl q))∧out q=r)∨(g k x=none∧∃ b',step (mk k b)=some (.inl (mk (k+1) b'))∧I (k+1) b'))
  {J:υ→Prop} (he:∀ b,I l.length b→∃ q,step (mk l.length b)=some (.inr (.inr q))∧J q):
  ∀ (m k:Nat) (b:β),k+m=l.length→I k b→(∀ r,GJ g k (l.drop k)=some r→∃ q,lp step (mk k b)=some (.inl q)∧out q=r)∧(GJ g k (l.drop k)=none→∃ q,lp step (mk k b)=some (.inr q)∧J q)
 | 0,k,b,h,hb=>by
  obtain rfl:k=l.length:=by omega
  obtain ⟨q,hq,hj⟩:=he b hb
  rw [List.drop_length]
  exact ⟨fun r hr=>(by cases hr),fun _=>⟨q,Gbl hq,hj⟩⟩
 | m+1,k,b,h,hb=>by
  have hlt:k<l.length:=by omega
  have h1:=hs k l[k] b (List.getElem?_eq_getElem hlt) hb
  rw [List.drop_eq_getElem_cons hlt]
  unfold GJ
  rcases h1 with ⟨r,q,h2,h3,h4⟩ | ⟨h2,b',h3,h4⟩
  ·rw [h2]
   exact ⟨fun r' hr=>⟨q,Gbl h3,by cases hr; exact h4⟩,fun h=>(by cases h)⟩
  ·rw [h2,GoW h3]
   exact Gns I hs he m (k+1) b' (by omega) h4
theorem GhN {α ρ β σ τ υ:Type} {l:List α} {mk:Nat→β→σ} {step:σ→Option (σ⊕(τ⊕υ))} {g:Nat→α→Option ρ} {out:τ→ρ} (I:Nat→β→Prop)
  (hs:∀ k x b,l[k]?=some x→I k b→(∃ r q,g k x=some r∧step (mk k b)=some (.inr (.inl q))∧out q=r)∨(g k x=none∧∃ b',step (mk k b)=some (.inl (mk (k+1) b'))∧I (k+1) b'))
  {J:υ→Prop} (he:∀ b,I l.length b→∃ q,step (mk l.length b)=some (.inr (.inr q))∧J q) {b:β} (h0:I 0 b):
  (∀ r,GJ g 0 l=some r→∃ q,lp step (mk 0 b)=some (.inl q)∧out q=r)∧(GJ g 0 l=none→∃ q,lp step (mk 0 b)=some (.inr q)∧J q):=
 Gns I hs he l.length 0 b (by omega) h0
theorem GiA {α ρ:Type} {g g':Nat→α→Option ρ}:∀ (l:List α) (k:Nat),(∀ i x,l[i]?=some x→g (k+i) x=g' (k+i) x)→GJ g k l=GJ g' k l
 | [],k,_=>rfl
 | x::l,k,h=>by
  have h1:g k x=g' k x:=h 0 x rfl
  have h2:=GiA l (k+1) (g:=g) (g':=g') fun i y hy=>by
   have:=h (i+1) y (by simpa using hy)
   rw [show k+1+i=k+(i+1) by omega]; exact this
  simp only [GJ,h1,h2]
theorem Gul {α ρ:Type} {g g':Nat→α→Option ρ} {l:List α} (h:∀ i x,l[i]?=some x→g i x=g' i x):GJ g 0 l=GJ g' 0 l:=
 GiA l 0 fun i x hx=>by rw [Nat.zero_add]; exact h i x hx
def GwU {σ ρ τ υ:Type} (s:σ) (f:ρ→τ):Option ρ→σ⊕(τ⊕υ)
 | some r=>.inr (.inl (f r))
 | none=>.inl s
theorem GlH {α ρ β σ τ υ:Type} {l:List α} {mk:Nat→β→σ} {step:σ→Option (σ⊕(τ⊕υ))} {g:Nat→α→Option ρ} (out:τ→ρ) (ex:Nat→α→ρ→β→τ) (nx:Nat→α→β→β) (hex:∀ k x r b,out (ex k x r b)=r) (I:Nat→β→Prop)
  (hs:∀ k x b,l[k]?=some x→I k b→step (mk k b)=some (GwU (mk (k+1) (nx k x b)) (fun r=>ex k x r b) (g k x))∧I (k+1) (nx k x b))
  {J:υ→Prop} (he:∀ b,I l.length b→∃ q,step (mk l.length b)=some (.inr (.inr q))∧J q) {b:β} (h0:I 0 b):
  (∀ r,GJ g 0 l=some r→∃ q,lp step (mk 0 b)=some (.inl q)∧out q=r)∧(GJ g 0 l=none→∃ q,lp step (mk 0 b)=some (.inr q)∧J q):=by
 refine GhN I (fun k x b hx hb=>?_) he h0
 obtain ⟨h1,h2⟩:=hs k x b hx hb
 cases hg:g k x with
 | some r=>rw [hg] at h1; exact .inl ⟨r,_,rfl,h1,hex k x r b⟩
 | none=>rw [hg] at h1; exact .inr ⟨rfl,_,h1,h2⟩
theorem Hk (b:Bool):b=true∨b=false:=by cases b <;> simp
theorem MI {α ρ:Type} {g:Nat→α→Option ρ}:∀ {l:List α} {k:Nat},GJ g k l=none→∀ i x,l[i]?=some x→g (k+i) x=none
 | [],k,_,i,x,h=>by simp at h
 | y::l,k,he,i,x,h=>by
  unfold GJ at he
  cases hg:g k y with
  | some r=>rw [hg] at he; cases he
  | none=>
   rw [hg] at he
   cases i with
   | zero=>simp only [List.getElem?_cons_zero,sJ] at h; subst h; exact hg
   | succ i=>rw [show k+(i+1)=k+1+i by omega]; exact MI he i x (by simpa using h)
def ixG {α:Type} (p:α→Bool) (k:Nat) (x:α):Option Int:=if p x then some (k:Int) else none
theorem GkU {α:Type} {p:α→Bool}:∀ (l:List α) (k:Nat),match GJ (ixG p) k l with | some r=>∃ j y,r=((k+j:Nat):Int)∧l[j]?=some y∧l.find? p=some y | none=>l.find? p=none
 | [],k=>rfl
 | x::l,k=>by
  have ih:=GkU (p:=p) l (k+1)
  have hx:ixG p k x=if p x then some (k:Int) else none:=rfl
  unfold GJ
  rw [hx]
  rcases Hk (p x) with h | h
  ·simp only [h,if_true]
   exact ⟨0,x,rfl,rfl,by simp [h]⟩
  ·simp only [h,if_false,Bool.false_eq_true,List.find?_cons]
   cases he:GJ (ixG p) (k+1) l with
   | some r=>
    rw [he] at ih
    obtain ⟨j,y,h1,h2,h3⟩:=ih
    exact ⟨j+1,y,by rw [h1]; congr 1; omega,by simpa using h2,h3⟩
   | none=>rw [he] at ih; exact ih
theorem X3 {α:Type} {p:α→Bool} (l:List α):(∃ j y,GJ (ixG p) 0 l=some ((j:Nat):Int)∧l[j]?=some y∧l.find? p=some y)∨(GJ (ixG p) 0 l=none∧l.find? p=none):=by
 have:=GkU (p:=p) l 0
 cases he:GJ (ixG p) 0 l with
 | some r=>
  rw [he] at this
  obtain ⟨j,y,h1,h2,h3⟩:=this
  exact .inl ⟨j,y,by rw [h1,Nat.zero_add],h2,h3⟩
 | none=>rw [he] at this; exact .inr ⟨rfl,this⟩
theorem Goq {α:Type} {p:α→Bool}:∀ l:List α,l.any p=(l.find? p).isSome
 | []=>rfl
 | x::l=>by
  rw [List.any_cons,List.find?_cons,Goq l]
  cases p x <;> rfl
theorem Gnr {α ρ:Type} {l:List α} {step:Nat→Option (Nat⊕(ρ⊕Unit))} {g:Nat→α→Option ρ} (hs:∀ k x,l[k]?=some x→(∀ i y,i<k→l[i]?=some y→g i y=none)→step k=some (K0 (k+1) (g k x)))
  (he:step l.length=some (.inr (.inr ()))):∀ (m k:Nat),k+m=l.length→(∀ i y,i<k→l[i]?=some y→g i y=none)→lp step k=some (HQ (GJ g k (l.drop k)))
 | 0,k,h,_=>by
  obtain rfl:k=l.length:=by omega
  rw [Gbl he,List.drop_length]; rfl
 | m+1,k,h,hb=>by
  have hlt:k<l.length:=by omega
  have h1:=hs k l[k] (List.getElem?_eq_getElem hlt) hb
  rw [List.drop_eq_getElem_cons hlt]
  unfold GJ
  cases hg:g k l[k] with
  | some r=>rw [hg] at h1; exact Gbl h1
  | none=>
   rw [hg] at h1
   rw [GoW h1]
   refine Gnr hs he m (k+1) (by omega) fun i y hi hy=>?_
   by_cases e:i=k
   ·subst e
    rw [List.getElem?_eq_getElem hlt] at hy
    obtain rfl:=Option.some.inj hy
    exact hg
   ·exact hb i y (by omega) hy
theorem GoU {α ρ:Type} {l:List α} {step:Nat→Option (Nat⊕(ρ⊕Unit))} {g:Nat→α→Option ρ} (hs:∀ k x,l[k]?=some x→(∀ i y,i<k→l[i]?=some y→g i y=none)→step k=some (K0 (k+1) (g k x)))
  (he:step l.length=some (.inr (.inr ()))):lp step 0=some (HQ (GJ g 0 l)):=Gnr hs he l.length 0 (by omega) fun i y hi=>absurd hi (by omega)
theorem RH {α ρ:Type} {g:Nat→α→Option ρ} {r:ρ}:∀ {l:List α} {k:Nat},GJ g k l=some r→∃ i x,l[i]?=some x∧g (k+i) x=some r
 | [],k,h=>by cases h
 | y::l,k,h=>by
  unfold GJ at h
  cases hg:g k y with
  | some q=>rw [hg] at h; cases h; exact ⟨0,y,rfl,hg⟩
  | none=>
   rw [hg] at h
   obtain ⟨i,x,h1,h2⟩:=RH h
   exact ⟨i+1,x,by simpa using h1,by rw [show k+(i+1)=k+1+i by omega]; exact h2⟩
end Go.Proofs.YtdifanfcaemokaaGreatDoor.Av
