import Derived.Test.YtdifanfcaemokaaGreatDoorPEa
import Derived.Lib.ItoaNum
import Derived.Test.YtdifanfcaemokaaGreatDoorProg
import Derived.KernelRfl
import Derived.Tactics
open Prod (fst)
open Int (tdiv tmod)
set_option linter.unusedVariables false
set_option linter.unusedSimpArgs false
namespace Go.Proofs.YtdifanfcaemokaaGreatDoor.Av
noncomputable section
open Go.RowKit
variable {P:Program} {G:Nat→AV}
def GkK (m:Tr Ob) (r:List Nat):List Nat→List Hb→Bool
 | i::l,b::bs=>(match m.get i with | some k=>GyV k (KO r b).ob | none=>false)&&GkK m r l bs
 | [],[]=>true
 | _,_=>false
theorem Ggk {m:Tr Ob} {r:List Nat}:∀ {l:List Nat} {bs:List Hb},GkK m r l bs=true→Rf m r l bs
 | [],[],_=>trivial
 | i::l,b::bs,h=>by
  simp only [GkK,Bool.and_eq_true] at h
  refine ⟨?_,Ggk h.2⟩
  have h1:=h.1
  split at h1
  ·rename_i k hk
   rw [hk,GvA h1]
  ·cases h1
 | [],_::_,h=>by cases h
 | _::_,[],h=>by cases h
structure Ent (P:Program) (G:Nat→AV) where
 f:FuncId
 nx:Nat
 ρ:List Nat
 m:Nat
 args:List AV
 blks:List Hb
 r:AV
 blks':List Hb
 ok:Kl P G m f args blks r blks'
def Ent.try (e:Ent P G) (f:FuncId) (args:List AV) (h:Hp):Bool:=
 Nat.beq f e.f&&Nat.beq h.nx e.nx&&eqL (eqV 12) args (e.args.map (ren e.ρ 4))&&GkK h.m e.ρ e.ρ e.blks&&(Gnn e.m e.ρ e.args e.blks e.r e.blks').ok args h
def Gzu:List (Ent P G)→FuncId→List AV→Hp→Option (CO×Hp)
 | [],_,_,_=>none
 | e::l,f,args,h=>match e.try f args h with | true=>some ((Gnn e.m e.ρ e.args e.blks e.r e.blks').res args h) | false=>Gzu l f args h
theorem GvW:∀ (l:List (Ent P G)) (f:FuncId) (args:List AV) (h:Hp) (r:CO×Hp),Gzu l f args h=some r→Hn P G f args h r.1 r.2
 | [],_,_,_,_,h=>by cases h
 | e::l,f,args,h,r,hr=>by
  unfold Gzu at hr
  split at hr
  ·rename_i ht
   simp only [sJ] at hr
   subst hr
   simp only [Ent.try,Bool.and_eq_true] at ht
   obtain ⟨⟨⟨⟨h1,h2⟩,h3⟩,h4⟩,h5⟩:=ht
   have hf:f=e.f:=Nat.eq_of_beq_eq_true h1
   subst hf
   exact GxZ e.ρ e.ok args h h5 ⟨GdE (Ga0 12) h3,Ggk h4⟩
  ·exact GvW l f args h r hr
def tab (l:List (Ent P G)):Tab P G:=⟨Gzu l,GvW l⟩
def runB (ρ:List Nat) (m:Nat) (r:AV) (blks':List Hb) (n0:Nat) (x:W (CO×Hp×List CH)):Bool:=
 match x with
 | some ((.ret v,h,[]),[])=>eqV 12 v (ren ρ 4 r)&&GkK h.m ρ ρ blks'&&(okR ρ r blks'&&idM ρ m&&Nat.ble m n0)
 | _=>false
theorem Kl.of_run (T:Tab P G) (m fuel:Nat) (ρ:List Nat) {f:FuncId} {args:List AV} {blks:List Hb} {r:AV} {blks':List Hb}
  (he:runB ρ m r blks' blks.length (VT P (evT P G T fuel) f args (RX blks ⟨.e,0⟩) [])=true):Kl P G m f args blks r blks':=by
 intro μ ro w vs ha hh hg
 unfold runB at he
 split at he
 ·rename_i v h' hr
  simp only [Bool.and_eq_true] at he
  obtain ⟨⟨h0,h1⟩,⟨⟨hc,hid⟩,hm⟩⟩:=he
  have hv:=Ga0 12 _ _ h0
  subst hv
  have hb:Rf h'.m ρ ρ blks':=Ggk h1
  simp only [okR,Bool.and_eq_true] at hc
  obtain ⟨⟨hc1,hc2⟩,hc3⟩:=hc
  have hm:=nB hm
  have hid:=GeS hid
  have hd:=Gqb P G T fuel f args (RX blks ⟨.e,0⟩) [] _ _ hr trivial μ ro w vs ha hh hg
  have hnx:(RX blks ⟨.e,0⟩).nx=blks.length:=by
   have:=(Kw blks ⟨.e,0⟩ 0).1
   simp only [Nat.zero_add] at this
   exact this
  refine hd.mono ?_
  rintro e w1 ⟨μ',ro',hup,hco,hh1⟩
  refine ⟨Xj ρ μ',ro',⟨fun i hi=>?_,hup.up,hup.nw,⟨hup.fr.os,hup.fr.tape,hup.fr.output,hup.fr.size,hup.fr.block,hup.fr.rest,fun i l hi=>?_⟩⟩,?_,hh1.ren hb hc1 hc2 (fun i hi=>if_pos hi) (fun i hi=>if_neg (by omega))⟩
  ·unfold Xj
   rw [if_pos (hid i hi).1,(hid i hi).2]
   exact hup.ag i (by rw [hnx]; omega)
  ·unfold Xj at hi
   split at hi
   ·exact hup.fr.new _ l hi
   ·cases hi
  ·cases e <;> simp only [GdY] at hco ⊢
   exact QY (fun i hi=>if_pos hi) 4 hc3 hco
 ·cases he
theorem HA.of_true (T:Tab P G) (fuel:Nat) {f:FuncId} (he:yes (VT P (evT P G T fuel) f [] ⟨.e,0⟩ [])=true):HA P G f [] (.bool true) []:=by
 unfold yes at he
 split at he
 ·rename_i h' hr
  intro ro w vs hro ha hg
  have hd:=Gqb P G T fuel f [] ⟨.e,0⟩ [] _ _ hr trivial (fun _=>none) ro w vs ha.up ⟨fun i k h=>(by simp [Tr.get] at h),fun i j k l b c h=>(by simp [Tr.get] at h),fun i k b h=>(by simp [Tr.get] at h),fun i b h=>(by cases h),hro,fun i hi=>rfl⟩ hg
  refine hd.mono ?_
  rintro e w1 ⟨μ',ro',hup,hco,hh1⟩
  refine ⟨fun _=>none,ro',⟨fun i hi=>rfl,hup.up,hup.nw,⟨hup.fr.os,hup.fr.tape,hup.fr.output,hup.fr.size,hup.fr.block,hup.fr.rest,fun i l hi=>(by cases hi)⟩⟩,?_,?_⟩
  ·cases e <;> simp only [GdY] at hco ⊢
   cases hco; exact .bool
  ·exact ⟨fun i k h=>(by simp [RX,Tr.get] at h),fun i j k l b c h=>(by simp [RX,Tr.get] at h),fun i k b h=>(by simp [RX,Tr.get] at h),fun i b h=>(by cases h),hh1.old,fun i hi=>rfl⟩
 ·cases he
end
noncomputable section
open Go Go.Proofs
def GT:Nat→AV:=fun g=>if g=3 then .rop (Go.Lib.pow10Tab.map (AV.int .u64)) 0 else if g=4 then .rop [.int .i64 31,.int .i64 28,.int .i64 31,.int .i64 30,.int .i64 31,.int .i64 30,.int .i64 31,.int .i64 31,.int .i64 30,.int .i64 31,.int .i64 30,.int .i64 31] 0 else .any
abbrev xi (n:Int):AV:=.int .i64 n
abbrev xb (c:List AV) (e:TypeId) (pl:Bool):Hb:=⟨c,e,false,0,pl,false,none⟩
abbrev xe (c:List AV) (e:TypeId) (pl:Bool):Hb:=⟨c,e,true,0,pl,false,none⟩
abbrev RT (f:FuncId) (a:List AV) (r:AV) (b:List Hb):Prop:=HA Tryz.prog GT f a r b
abbrev DT (n:Nat) (c:Code) (s:St) (e:Hm) (s1:St):Prop:=GN Tryz.prog GT n c s e s1
end
noncomputable section
open Go.RowKit
open Go.ChangeMaps (setBlock)
variable {P:Program} {G:Nat→AV} {μ μ':Nat→Option HY} {ro ro':Nat→Prop} {w w':World}
def M1 (P:Program) (G:Nat→AV) (n:Nat) (c:Code) (s:St) (R:Hm→St→Prop):Prop:=
 ∀ μ ro a w,Hc G μ ro w s a→c.wp P (fun e' a' w'=>∃ e s',R e s'∧Mu n G μ ro w e s' e' a' w') a w
theorem GN.toE {n:Nat} {c:Code} {s s':St} {e:Hm} (h:GN P G n c s e s'):M1 P G n c s (fun x y=>x=e∧y=s'):=fun μ ro a w hs=>
 wp_mono (h μ ro a w hs) fun _ _ _ hp=>⟨e,s',⟨rfl,rfl⟩,hp⟩
theorem M1.mono {n:Nat} {c:Code} {s:St} {R R':Hm→St→Prop} (h:M1 P G n c s R) (hR:∀ e s',R e s'→R' e s'):M1 P G n c s R':=fun μ ro a w hs=>
 wp_mono (h μ ro a w hs) fun _ _ _ ⟨e,s',h1,h2⟩=>⟨e,s',hR _ _ h1,h2⟩
theorem Mu.sub {n:Nat} {e:Hm} {s1 s':St} {e':Exit} {a':Act} (he:∀ v,e≠.panic v) (h:Mu n G μ ro w e s1 e' a' w') (hsub:Uc n s1 s'):Mu n G μ ro w e s' e' a' w':=by
 obtain ⟨μ',ro',k1,k2,k3⟩:=h
 obtain ⟨μ0,ro0,h1,h2,h4,h5,h3⟩:=hsub G μ' ro' w' a' k3
 refine ⟨μ0,ro0,k1.subr h1 h2 h4 h5,?_,h3⟩
 cases e with
 | panic v=>exact absurd rfl (he v)
 | _=>cases e' <;> first | exact k2 | exact k2.elim
theorem M1.one {n:Nat} {c:Code} {s s':St} {e:Hm} {R:Hm→St→Prop} (h:M1 P G n c s R) (he:∀ v,e≠.panic v) (hR:∀ e1 s1,R e1 s1→e1=e∧Uc n s1 s'):GN P G n c s e s':=fun μ ro a w hs=>
 wp_mono (h μ ro a w hs) fun e' a' w' ⟨e1,s1,h1,h2⟩=>by
  obtain ⟨rfl,h3⟩:=hR _ _ h1
  exact h2.sub he h3
theorem M1.seq {n:Nat} {c d:Code} {s:St} {R T:Hm→St→Prop} (h:M1 P G n c s R) (k:∀ s1,R .normal s1→M1 P G n d s1 T) (o:∀ e s1,e≠.normal→R e s1→T e s1):M1 P G n (.seq c d) s T:=fun μ ro a w hs=>
 wp_seq (wp_mono (h μ ro a w hs) fun e' a1 w1 ⟨e,s1,h1,h2⟩=>by
  by_cases he:e=.normal
  ·subst he
   obtain ⟨μ1,ro1,q1,q3,q4⟩:=h2
   cases e' <;> simp only [Vd] at q3
   exact wp_mono (k s1 h1 μ1 ro1 a1 w1 q4) fun _ _ _ ⟨e2,s2,g1,g2⟩=>⟨e2,s2,g1,Mu.trans q1 g2⟩
  ·have h3:=o e s1 he h1
   obtain ⟨μ1,ro1,q1,q3,q4⟩:=h2
   cases e' <;> first
    | exact ⟨e,s1,h3,μ1,ro1,q1,q3,q4⟩
    | (cases e <;> simp only [Vd] at q3; exact absurd rfl he))
theorem M1.pre {n:Nat} {c:Code} {s s0:St} {R:Hm→St→Prop} (hsub:Uc n s s0) (h:M1 P G n c s0 R):M1 P G n c s R:=fun μ ro a w hst=>by
 obtain ⟨μ0,ro0,h1,h2,h4,h5,h3⟩:=hsub G μ ro w a hst
 refine wp_mono (h μ0 ro0 a w h3) fun e' a' w' ⟨e,s',g,μ',ro',k1,k2,k3⟩=>⟨e,s',g,μ',ro',⟨h1.trans k1.ag,fun b hb=>k1.up b (h4 b hb),fun b hb=>?_,(k1.fr.weaken h4).pre h2⟩,k2,k3⟩
 rcases k1.nw b hb with h | h | ⟨i,l,q1,q2⟩
 ·exact (h5 b h).imp_right .inr
 ·exact .inr (.inl h)
 ·obtain ⟨j,m,q3,q4⟩:=h2 i l q1
  exact .inr (.inr ⟨j,m,q3,q4.trans q2⟩)
theorem M1.loop {n:Nat} {c:Code} {I:Nat→St→Prop} {R:Hm→St→Prop}
  (h:∀ m s,I m s→M1 P G n c s fun e s'=>(e=.normal∧∃ m',m'<m∧I m' s')∨(e≠.normal∧R e s')):∀ {m:Nat} {s:St},I m s→M1 P G n (.loop c) s R:=by
 intro m
 induction m using Nat.strongRecOn with
 | ind m ih=>
  intro s hI μ ro a w hs
  refine GbZ (fun _ _ _ ⟨_,_,_,hp⟩=>Mu.noGoto hp) (fun _ _ ⟨_,_,_,hp⟩=>Mu.noOut hp) (wp_mono (h m s hI μ ro a w hs) fun e' a1 w1 ⟨e,s1,h1,h2⟩=>?_)
  rcases h1 with ⟨rfl,m',hlt,hI'⟩ | ⟨hne,hR⟩
  ·obtain ⟨μ1,ro1,q1,q3,q4⟩:=h2
   cases e' <;> simp only [Vd] at q3
   exact wp_mono (ih m' hlt hI' μ1 ro1 a1 w1 q4) fun _ _ _ ⟨e2,s2,g1,g2⟩=>⟨e2,s2,g1,Mu.trans q1 g2⟩
  ·obtain ⟨μ1,ro1,q1,q3,q4⟩:=h2
   cases e' <;> first
    | exact ⟨e,s1,hR,μ1,ro1,q1,q3,q4⟩
    | (cases e <;> simp only [Vd] at q3; exact absurd rfl hne)
/-! ### the next entry -/
theorem GuR {ms:List MapEntry} {seen:List Nat} {e:MapEntry} (h:e ∈ (leftOf ms.toArray seen.toArray).toList):e ∈ ms∧e.born ∉ seen:=by
 unfold leftOf at h
 simpa using h
theorem GuS {ms:List MapEntry} {seen:List Nat} (h:(leftOf ms.toArray seen.toArray).size=0):∀ e ∈ ms,e.born ∈ seen:=by
 intro e he
 unfold leftOf at h
 have:=Array.eq_empty_of_size_eq_zero h
 rw [Array.filter_eq_empty_iff] at this
 have h2:=this e (by simpa using he)
 simpa using h2
def GoZ (s:St) (i td:Nat) (r:AV) (o:Ob):St:={ s with tm:=s.tm.put td (some r),hp:=s.hp.set i o }
theorem Mt.get {kd:KK}:∀ {es:List (AV×AV)} {ms:List MapEntry} {x:Nat} {e:MapEntry},Mt kd μ ro w es ms→ms[x]?=some e→∃ k v,es[x]?=some (k,v)
 | _,_,x,_,.nil,h=>by simp at h
 | _,_,0,_,.cons (k:=k) (v:=v) _ _ _,_=>⟨k,v,rfl⟩
 | _,_,x+1,_,.cons _ _ he,h=>by
  obtain ⟨k,v,q⟩:=he.get (x:=x) (by simpa using h)
  exact ⟨k,v,by simpa using q⟩
theorem Hc.put1 {s:St} {a:Act} {d:Nat} {v:AV} {x:Value} (h:Hc G μ ro w s a) (hlt:Nat.blt d s.nt=true) (hv:G1 μ ro w true v x):Hc G μ ro w { s with tm:=s.tm.put d (some v) } (a.put (some d) x):=by
 have e:s.put (some d) v=some ({ s with tm:=s.tm.put d (some v) },[]):=by unfold St.put; simp only [hlt]; rfl
 exact (Hc.put h hv (dst:=some d) _ _ e trivial).1
def GAv (s:St) (i td:Nat) (m cl:Nat) (seen:List Nat) (es:List (AV×AV)) (ms:List MapEntry) (s':St):Prop:=
 (∃ (x:Nat) (e:MapEntry) (k v:AV),ms[x]?=some e∧es[x]?=some (k,v)∧e.born ∉ seen∧s'=GoZ s i td (.tup [.bool true,k,v]) (.mit m cl (seen++[e.born]) cl))∨
 ((∀ e ∈ ms,e.born ∈ seen)∧s'=GoZ s i td (.tup [.bool false]) (.mit m cl seen cl))
theorem Gwz {ops:Array Oper} {s:St} {ti td i j m cl:Nat} {kd:KK} {es:List (AV×AV)} {ms:List MapEntry} {seen:List Nat} {o:Oper} {q:Nat} {a:Act}
  (ho:ops[q]?=some o) (hop:o.op=.next (.tmp ti) false) (hd:o.dst=some td) (hg:o.guard=none) (hlt:Nat.blt td s.nt=true)
  (ht:s.tm.get ti=some (.ptr i 0)) (hi:s.hp.m.get i=some (.mit m cl seen cl)) (hj:s.hp.m.get j=some (.rm m kd es ms cl)) {Q:Exit→Act→World→Prop} {K:Act→World→Prop} (hs:Hc G μ ro w s a)
  (hK:∀ s' a' w',GAv s i td m cl seen es ms s'→Up s.hp.nx μ ro w μ ro w'→Hc G μ ro w' s' a'→K a' w'):wpOp P ops Q q K a w:=by
 obtain ⟨b,hb,hob⟩:∃ b,μ i=some b∧w.heap[b.1]?=some (.mapIter (some m) cl seen.toArray cl):=by
  rcases hs.hp.obs i _ hi with h | ⟨_,h,_⟩
  ·exact h
  ·exact h.elim
 obtain ⟨bm,hbm,g0,g1,g2,g3,g4,g5⟩:∃ bm,μ j=some bm∧Gm3 μ ro w bm m kd es ms cl:=by
  rcases hs.hp.obs j _ hj with h | ⟨_,h,_⟩
  ·exact h
  ·exact h.elim
 rw [g0] at g1
 have hti:=hs.tm ti _ ht
 have hval:a.tmps.getD ti undef=.pointer (some ⟨b.1,0,none⟩):=by
  generalize a.tmps.getD ti undef=x at hti
  cases hti with
  | ptr h=>rw [hb] at h; cases h; rfl
 unfold wpOp
 rw [ho]
 simp only
 have hw:Region.wanted o (yielded ops a.tmps)=true:=by simp [Region.wanted,hg]
 rw [hw,if_pos rfl]
 refine .inl ?_
 have hex:∀ r w1,(Instr.next (.pointer (some ⟨b.1,0,none⟩)) false o.type).run P w=.ok r w1→(execOp a.eval o).run P w=.ok (.value r) w1:=fun r w1 h=>by
  have e:a.eval (.tmp ti)=.pointer (some ⟨b.1,0,none⟩):=hval
  unfold execOp
  rw [hop]
  simp only [Sem.run_bind,e,h,Result.andThen_ok,Sem.run_pure]
 have hblt:b.1<w.heap.size:=hs.hp.lt i b hb
 unfold Oper.wp
 rcases Go.run_next_at (P:=P) w o.type b.1 m cl cl seen.toArray ms.toArray cl hob g1 (by simpa using g3) (Nat.le_refl _) with ⟨h1,h2⟩ | ⟨e,he,w1,hw1,h2⟩
 ·rw [hex _ _ h2,Oper.upon_value,hd]
  have h3:=Hc.put1 hs hlt (v:=.tup [.bool false]) (x:=.tuple #[.bool false]) (GQ.cons .bool GQ.nil).tup
  refine hK _ _ w (.inr ⟨GuS h1,rfl⟩) (.refl _ _ _ _) ⟨h3.tm,h3.nt,?_,h3.gl,h3.df⟩
  exact hs.hp.set (k':=.mit m cl seen cl) hi hb (Nat.le_refl _) (fun _ _ _=>rfl) hob
 ·obtain ⟨hm1,hm2⟩:=GuR he
  obtain ⟨x,hx,hxe⟩:=List.getElem_of_mem hm1
  have hx':ms[x]?=some e:=by rw [List.getElem?_eq_getElem hx,hxe]
  obtain ⟨k,v,hkv⟩:=g2.get hx'
  obtain ⟨q1,q2⟩:=g2.at hkv hx'
  have hheap:w1.heap=w.heap:=by rcases hw1 with rfl | rfl <;> rfl
  let w2:World:=setBlock w1 b.1 (.mapIter (some m) cl (seen.toArray.push e.born) cl)
  have hne:∀ p,p≠b.1→w2.heap[p]?=w.heap[p]?:=fun p hp=>by
   simp only [w2,setBlock,hheap]
   rw [Array.getElem?_setIfInBounds_ne (Ne.symm hp)]
  have heq:w2.heap[b.1]?=some (.mapIter (some m) cl (seen++[e.born]).toArray cl):=by
   simp only [w2,setBlock,hheap]
   rw [Array.getElem?_setIfInBounds_self_of_lt hblt]
   simp
  have hsz:w2.heap.size=w.heap.size:=by simp [w2,setBlock,hheap]
  have hfr:Fr μ ro w μ w2:=Fr.write hb (by rcases hw1 with rfl | rfl <;> rfl) (by rcases hw1 with rfl | rfl <;> rfl) (by rcases hw1 with rfl | rfl <;> rfl) hsz (hs.hp.own i _ b hi hb) hne
  have hup:Up s.hp.nx μ ro w μ ro w2:=Up.of_fr (.refl _ _) hfr
  have hh2:GV μ ro (s.hp.set i (.mit m cl (seen++[e.born]) cl)) w2:=hs.hp.set hi hb (Nat.le_of_eq hsz.symm) (fun p hp _=>hne p hp) heq
  have hs2:=hs.up hup hh2
  have h3:=Hc.put1 hs2 hlt (v:=.tup [.bool true,k,v]) (x:=.tuple #[.bool true,e.key,e.val]) (GQ.cons .bool (GQ.cons (GoQ q1) (GQ.cons ((q2.mono (fun _ _ h=>h) (fun _ h=>h) hup.fr.block).up) GQ.nil))).tup
  rw [hex _ _ h2,Oper.upon_value,hd]
  exact hK _ _ w2 (.inl ⟨x,e,k,v,hx',hkv,hm2,rfl⟩) hup h3
def GlK (s:St) (i td te:Nat) (r:AV) (β:Bool) (o:Ob):St:={ GoZ s i td r o with tm:=(GoZ s i td r o).tm.put te (some (.bool β)) }
structure GnZ (ops:Array Oper) (ti td te nt:Nat):Prop where
 sz:ops.size=2
 h0:∃ o,ops[0]?=some o∧o.op=.next (.tmp ti) false∧o.dst=some td∧o.guard=none
 h1:∃ o,ops[1]?=some o∧o.op=.extract (.tmp td) 0∧o.dst=some te∧o.guard=none
 l0:Nat.blt td nt=true
 l1:Nat.blt te nt=true
theorem Gs6 {ops:Array Oper} {n id:Nat} {s:St} {ti td te i j m cl:Nat} {kd:KK} {es:List (AV×AV)} {ms:List MapEntry} {seen:List Nat} (hops:GnZ ops ti td te s.nt) (hn:n≤s.hp.nx)
  (ht:s.tm.get ti=some (.ptr i 0)) (hi:s.hp.m.get i=some (.mit m cl seen cl)) (hj:s.hp.m.get j=some (.rm m kd es ms cl)):
  M1 P G n (.region id ops false) s fun e s'=>e=.normal∧
   ((∃ (x:Nat) (e:MapEntry) (k v:AV),ms[x]?=some e∧es[x]?=some (k,v)∧e.born ∉ seen∧s'=GlK s i td te (.tup [.bool true,k,v]) true (.mit m cl (seen++[e.born]) cl))∨
    ((∀ e ∈ ms,e.born ∈ seen)∧s'=GlK s i td te (.tup [.bool false]) false (.mit m cl seen cl))):=by
 intro μ ro a w hs
 obtain ⟨hsz,⟨o0,h00,h01,h02,h03⟩,⟨o1,h10,h11,h12,h13⟩,hl0,hl1⟩:=hops
 refine wp_region ?_
 rw [hsz]
 show wpOps P ops _ [0,1] a w
 rw [wpOps_cons]
 refine Gwz h00 h01 h02 h03 hl0 ht hi hj hs fun s1 a1 w1 hN hup hs1=>?_
 rw [wpOps_cons]
 have key:∀ (r:AV) (β:Bool) (c:List AV) (o:Ob),r=.tup (.bool β::c)→s1=GoZ s i td r o→Ui P G ops 1 s1 .normal (GlK s i td te r β o):=fun r β c o hr hq=>by
  subst hr; subst hq
  have he:U9 P G (fun _ _ _ _=>W.fail) ops 1 (GoZ s i td (.tup (.bool β::c)) o) []=some ((.normal,GlK s i td te (.tup (.bool β::c)) β o,[]),[]):=by
   unfold U9
   simp only [h10,Gql,h13,W.bind,W.pure,Gwm,h11,opd,GoZ,Tr.get_put,if_true,Ggf,List.getElem?_cons_zero,W.of,h12,St.put,hl1,List.append_nil,List.nil_append,List.tail_nil]
   rfl
  exact (X4 (fun f args h hs=>W.sat_fail) _ _ he trivial).1
 rcases hN with ⟨x,e,k,v,q1,q2,q3,q4⟩ | ⟨q1,q2⟩
 ·refine key _ true [k,v] _ rfl q4 μ ro a1 w1 _ _ hs1 fun μ' ro' a' w' hup2 hs2=>⟨fun _ _=>?_,fun _ _ h=>(by cases h)⟩
  have hnx:s1.hp.nx=s.hp.nx:=by rw [q4]; rfl
  exact ⟨.normal,_,⟨rfl,.inl ⟨x,e,k,v,q1,q2,q3,rfl⟩⟩,μ',ro',(hup.mono hn).trans (hup2.mono (by rw [hnx]; exact hn)),trivial,hs2⟩
 ·refine key _ false [] _ rfl q2 μ ro a1 w1 _ _ hs1 fun μ' ro' a' w' hup2 hs2=>⟨fun _ _=>?_,fun _ _ h=>(by cases h)⟩
  have hnx:s1.hp.nx=s.hp.nx:=by rw [q2]; rfl
  exact ⟨.normal,_,⟨rfl,.inr ⟨q1,rfl⟩⟩,μ',ro',(hup.mono hn).trans (hup2.mono (by rw [hnx]; exact hn)),trivial,hs2⟩
/-! ### the loop -/
def Gos (ms:List MapEntry) (x:Nat):Nat:=match ms[x]? with | some e=>e.born | none=>0
theorem GAl {ms:List MapEntry} (h:(ms.map (·.born)).Nodup) {x y:Nat} {e e':MapEntry} (hx:ms[x]?=some e) (hy:ms[y]?=some e') (he:e.born=e'.born):x=y:=by
 have h1:(ms.map (·.born))[x]?=some e.born:=by rw [List.getElem?_map,hx]; rfl
 have h2:(ms.map (·.born))[y]?=some e'.born:=by rw [List.getElem?_map,hy]; rfl
 obtain ⟨hil,e1⟩:=List.getElem?_eq_some_iff.1 h1
 obtain ⟨hjl,e2⟩:=List.getElem?_eq_some_iff.1 h2
 rw [List.Nodup,List.pairwise_iff_getElem] at h
 rcases Nat.lt_trichotomy x y with q | q | q
 ·exact absurd (e1.trans (he.trans e2.symm)) (h x y hil hjl q)
 ·exact q
 ·exact absurd (e2.trans (he.symm.trans e1.symm)) (h y x hjl hil q)
def GuX (ops:Array Oper) (ti td te nt:Nat):Bool:=
 match (ops[0]?:Option Oper),(ops[1]?:Option Oper) with
 | some (Oper.mk (some d) (.next (.tmp i) false) _ _ _ none),some (Oper.mk (some e) (.extract (.tmp d') 0) _ _ _ none)=>Nat.beq ops.size 2&&Nat.beq d td&&Nat.beq i ti&&Nat.beq e te&&Nat.beq d' td&&Nat.blt td nt&&Nat.blt te nt
 | _,_=>false
theorem GuY {ops:Array Oper} {ti td te nt:Nat} (h:GuX ops ti td te nt=true):GnZ ops ti td te nt:=by
 unfold GuX at h
 split at h
 ·rename_i h0 h1
  simp only [Bool.and_eq_true] at h
  obtain ⟨⟨⟨⟨⟨⟨h2,h3⟩,h4⟩,h5⟩,h6⟩,h7⟩,h8⟩:=h
  have e3:=Nat.eq_of_beq_eq_true h3
  have e4:=Nat.eq_of_beq_eq_true h4
  have e5:=Nat.eq_of_beq_eq_true h5
  have e6:=Nat.eq_of_beq_eq_true h6
  subst e3 e4 e5 e6
  exact ⟨Nat.eq_of_beq_eq_true h2,⟨_,h0,rfl,rfl,rfl⟩,⟨_,h1,rfl,rfl,rfl⟩,h7,h8⟩
 ·cases h
def Gx8 (c:Code) (ti td te nt:Nat):Bool:=match c with | .loop (.seq (.region _ ops false) _)=>GuX ops ti td te nt | _=>false
def Gyn (c:Code):Code:=match c with | .loop (.seq _ r)=>r | _=>.skip
theorem Gww {c:Code} {ti td te nt:Nat} (h:Gx8 c ti td te nt=true):∃ id ops,c=.loop (.seq (.region id ops false) (Gyn c))∧GnZ ops ti td te nt:=by
 unfold Gx8 at h
 split at h
 ·exact ⟨_,_,rfl,GuY h⟩
 ·cases h
end
set_option linter.unusedSectionVars false
noncomputable section
section
variable {α K:Type} [DecidableEq K]
def Jb (κ:α→K):List α→α→List α
 | [],x=>[x]
 | y::l,x=>if κ y=κ x then x::l else y::Jb κ l x
def X8 (κ:α→K):List α→K→Option α
 | [],_=>none
 | y::l,k=>if κ y=k then some y else X8 κ l k
variable {κ:α→K}
theorem YJ {e:α→AV×AV} (he:∀ x y,KY (e x).1 (e y).1=decide (κ x=κ y)) (l:List α) (x:α):ZD (l.map e) (e x).1 (e x).2=(Jb κ l x).map e:=by
 induction l with
 | nil=>rfl
 | cons z l ih=>
  rw [List.map_cons]
  unfold Jb
  show (match KY (e z).1 (e x).1 with | true=>((e z).1,(e x).2)::l.map e | false=>((e z).1,(e z).2)::ZD (l.map e) (e x).1 (e x).2)=_
  rw [he]
  by_cases h:κ z=κ x
  ·have h1:(e z).1=(e x).1:=GoO (by rw [he]; simp [h])
   rw [if_pos h,dT h,h1]; rfl
  ·rw [if_neg h,dF h,ih]; rfl
theorem Gs4 {e:α→AV×AV} (he:∀ x y,KY (e x).1 (e y).1=decide (κ x=κ y)) (l:List α) {k:K} {a:AV} (ha:∀ x,KY (e x).1 a=decide (κ x=k)):Jp (l.map e) a=(X8 κ l k).map fun x=>(e x).2:=by
 induction l with
 | nil=>rfl
 | cons z l ih=>
  rw [List.map_cons]
  unfold X8
  show (match KY (e z).1 a with | true=>some (e z).2 | false=>Jp (l.map e) a)=_
  rw [ha]
  by_cases h:κ z=k
  ·rw [if_pos h,dT h]; rfl
  ·rw [if_neg h,dF h,ih]
theorem Mq {e:α→AV×AV} (he:∀ x y,KY (e x).1 (e y).1=decide (κ x=κ y)) {l:List α} {k:K} {a:AV} (ha:∀ x,KY (e x).1 a=decide (κ x=k)) {q:α} (h:X8 κ l k=some q):Jp (l.map e) a=some (e q).2:=by
 rw [Gs4 he l ha,h]; rfl
theorem X9 {e:α→AV×AV} (he:∀ x y,KY (e x).1 (e y).1=decide (κ x=κ y)) {l:List α} {k:K} {a:AV} (ha:∀ x,KY (e x).1 a=decide (κ x=k)) (h:X8 κ l k=none):Jp (l.map e) a=none:=by
 rw [Gs4 he l ha,h]; rfl
theorem Gio {l:List α} {k:K} (h:¬ (X8 κ l k).isSome=true):X8 κ l k=none:=by
 cases hh:X8 κ l k with
 | none=>rfl
 | some x=>rw [hh] at h; exact absurd rfl h
end
theorem Gtc {α β:Type} {f:α→β} {l:List α} {m:List β} (h:m.Perm (l.map f)):∃ l':List α,l'.Perm l∧m=l'.map f:=by
 generalize hb:l.map f=b at h
 have h':=h.symm
 clear h
 induction h' generalizing l with
 | nil=>exact ⟨[],by cases l <;> simp at hb ⊢,rfl⟩
 | cons x _ ih=>
  cases l with
  | nil=>simp at hb
  | cons y l=>
   simp only [List.map_cons,List.cons.injEq] at hb
   obtain ⟨l',h1,h2⟩:=ih hb.2
   exact ⟨y::l',h1.cons y,by rw [h2,List.map_cons,hb.1]⟩
 | swap x y b=>
  cases l with
  | nil=>simp at hb
  | cons u l=>
   cases l with
   | nil=>simp at hb
   | cons v l=>
    simp only [List.map_cons,List.cons.injEq] at hb
    obtain ⟨h1,h2,h3⟩:=hb
    exact ⟨v::u::l,.swap _ _ _,by rw [List.map_cons,List.map_cons,h1,h2,h3]⟩
 | trans _ _ ih1 ih2=>
  obtain ⟨l1,h1,h2⟩:=ih1 hb
  obtain ⟨l2,h3,h4⟩:=ih2 h2.symm
  exact ⟨l2,h3.trans h1,h4⟩
abbrev bM (kd:KK) (es:List (AV×AV)):Hb:={ c:=[],e:=0,ext:=false,fz:=0,pl:=false,it:=some (.map kd es) }
abbrev bR (m:Nat) (kd:KK) (es:List (AV×AV)) (ms:List MapEntry) (cl:Nat):Hb:={ c:=[],e:=0,ext:=false,fz:=0,pl:=false,it:=some (.rm m kd es ms cl) }
abbrev bI (m since:Nat) (seen:List Nat) (cl:Nat):Hb:={ c:=[],e:=0,ext:=false,fz:=0,pl:=false,it:=some (.mit m since seen cl) }
variable {P:Program} {G:Nat→AV} {μ μ':Nat→Option HY} {ro ro':Nat→Prop} {w w':World}
theorem GV.show {h:Hp} {id:Nat} {kd:KK} {es:List (AV×AV)} (hh:GV μ ro h w) (hk:h.m.get id=some (.map kd es)):
  ∃ m es' ms cl,es.Perm es'∧es'.length=ms.length∧(ms.map (·.born)).Nodup∧GV μ ro (h.set id (.rm m kd es' ms cl)) w:=by
 obtain ⟨b,hb,hob⟩:∃ b,μ id=some b∧GaP μ ro w b kd es:=by
  rcases hh.obs id _ hk with h | ⟨_,h,_⟩
  ·exact h
  ·exact h.elim
 obtain ⟨m,es',ms,cl,h1,h2⟩:=hob.show
 refine ⟨m,es',ms,cl,h1,h2.2.2.1.length.symm,h2.2.2.2.2.1,hh.weak rfl fun i k1 hi=>?_⟩
 simp only [Hp.set,Tr.get_put] at hi
 by_cases e:i=id
 ·subst e
  simp only [if_true,sJ] at hi
  subst hi
  refine ⟨_,hk,fun c hc hr=>?_,fun hb=>hb.elim⟩
  rw [hb] at hc; cases hc
  exact h2
 ·rw [if_neg e] at hi
  exact ⟨_,hi,fun _ _ h=>h,fun h=>h⟩
end
set_option maxHeartbeats 4000000
set_option maxRecDepth 100000
noncomputable section
open Go Go.Proofs
structure Gr where
 Name:(List UInt8)
 Kind:Int
 System:(List UInt8)
def Gr.enc (x:Gr):List AV:=[.str x.Name,.int .i64 x.Kind,.str x.System]
structure GW where
 From:(List UInt8)
 To:(List UInt8)
 Min:Int
 Max:Int
def GW.enc (x:GW):List AV:=[.str x.From,.str x.To,.int .i64 x.Min,.int .i64 x.Max]
structure Gm where
 Name:(List UInt8)
 Closed:Bool
 Most:Int
def Gm.enc (x:Gm):List AV:=[.str x.Name,.bool x.Closed,.int .i64 x.Most]
structure GF where
 From:Int
 Delta:Int
def GF.enc (x:GF):List AV:=[.int .i64 x.From,.int .i64 x.Delta]
structure Gp where
 From:Int
 To:Int
def Gp.enc (x:Gp):List AV:=[.int .i64 x.From,.int .i64 x.To]
structure Gk where
 From:Int
 To:Int
 Class:Int
def Gk.enc (x:Gk):List AV:=[.int .i64 x.From,.int .i64 x.To,.int .i64 x.Class]
structure Gs where
 Tag:(List UInt8)
 From:Int
 State:Int
def Gs.enc (x:Gs):List AV:=[.str x.Tag,.int .i64 x.From,.int .i64 x.State]
structure Gl where
 Days:Int
 From:Int
 To:Int
def Gl.enc (x:Gl):List AV:=[.int .i64 x.Days,.int .i64 x.From,.int .i64 x.To]
structure GR where
 Name:(List UInt8)
 Window:Gl
def GR.enc (x:GR):List AV:=[.str x.Name,.int .i64 x.Window.Days,.int .i64 x.Window.From,.int .i64 x.Window.To]
structure GC where
 From:(List UInt8)
 To:(List UInt8)
 Class:Int
 Band:(List UInt8)
 Cents:Int
def GC.enc (x:GC):List AV:=[.str x.From,.str x.To,.int .i64 x.Class,.str x.Band,.int .i64 x.Cents]
structure Gi where
 Name:(List UInt8)
 Kind:Int
 Amount:Int
 Group:(List UInt8)
 System:(List UInt8)
 Class:Int
 Window:Gl
 Least:Int
def Gi.enc (x:Gi):List AV:=[.str x.Name,.int .i64 x.Kind,.int .i64 x.Amount,.str x.Group,.str x.System,.int .i64 x.Class,.int .i64 x.Window.Days,.int .i64 x.Window.From,.int .i64 x.Window.To,.int .i64 x.Least]
structure G9 where
 Name:(List UInt8)
 System:(List UInt8)
 Days:Int
 Cents:Int
def G9.enc (x:G9):List AV:=[.str x.Name,.str x.System,.int .i64 x.Days,.int .i64 x.Cents]
structure Gv where
 Upto:Int
 Unit:Int
 Cents:Int
def Gv.enc (x:Gv):List AV:=[.int .i64 x.Upto,.int .i64 x.Unit,.int .i64 x.Cents]
structure Gn where
 Tag:(List UInt8)
 Plate:(List UInt8)
 Time:Gp
def Gn.enc (x:Gn):List AV:=[.str x.Tag,.str x.Plate,.int .i64 x.Time.From,.int .i64 x.Time.To]
structure GA where
 Kind:Int
 Part:Int
def GA.enc (x:GA):List AV:=[.int .i64 x.Kind,.int .i64 x.Part]
structure Gq where
 Purpose:Int
 Seconds:Int
 Least:Int
def Gq.enc (x:Gq):List AV:=[.int .i64 x.Purpose,.int .i64 x.Seconds,.int .i64 x.Least]
structure Gj where
 Name:(List UInt8)
 Point:(List UInt8)
 Kind:Int
 Lane:Int
 Offsets:(List GF)
 Down:(List Gp)
def Gj.enc (x:Gj):List AV:=[.str x.Name,.str x.Point,.int .i64 x.Kind,.int .i64 x.Lane,.lst (fl GF.enc x.Offsets) x.Offsets.length,.lst (fl Gp.enc x.Down) x.Down.length]
structure Gd where
 Valid:Gp
 Bands:(List GR)
 Rates:(List GC)
def Gd.enc (x:Gd):List AV:=[.int .i64 x.Valid.From,.int .i64 x.Valid.To,.lst (fl GR.enc x.Bands) x.Bands.length,.lst (fl GC.enc x.Rates) x.Rates.length]
structure Gg where
 Name:(List UInt8)
 Hours:(List Gl)
 Steps:(List Gv)
 Grace:Int
 Free:Int
 DayMax:Int
 MaxStay:Int
def Gg.enc (x:Gg):List AV:=[.str x.Name,.lst (fl Gl.enc x.Hours) x.Hours.length,.lst (fl Gv.enc x.Steps) x.Steps.length,.int .i64 x.Grace,.int .i64 x.Free,.int .i64 x.DayMax,.int .i64 x.MaxStay]
structure Gw where
 Name:(List UInt8)
 Zone:(List UInt8)
 Plates:(List (List UInt8))
 Valid:Gp
 Hours:(List Gl)
 Most:Int
def Gw.enc (x:Gw):List AV:=[.str x.Name,.str x.Zone,.lst (fl JB x.Plates) x.Plates.length,.int .i64 x.Valid.From,.int .i64 x.Valid.To,.lst (fl Gl.enc x.Hours) x.Hours.length,.int .i64 x.Most]
structure JA where
 Below:Int
 Cents:Int
 Tries:Int
 Wait:Int
def JA.enc (x:JA):List AV:=[.int .i64 x.Below,.int .i64 x.Cents,.int .i64 x.Tries,.int .i64 x.Wait]
structure Gc where
 Name:(List UInt8)
 Agency:(List UInt8)
 Prepay:Bool
 Owned:(List Gn)
 Refill:JA
 Exempt:Bool
def Gc.enc (x:Gc):List AV:=[.str x.Name,.str x.Agency,.bool x.Prepay,.lst (fl Gn.enc x.Owned) x.Owned.length,.int .i64 x.Refill.Below,.int .i64 x.Refill.Cents,.int .i64 x.Refill.Tries,.int .i64 x.Refill.Wait,.bool x.Exempt]
structure Gh8 where
 Account:(List UInt8)
 Cents:Int
def Gh8.enc (x:Gh8):List AV:=[.str x.Account,.int .i64 x.Cents]
structure XW where
 Key:(List UInt8)
 Time:Int
 Posts:(List Gh8)
def XW.enc (x:XW):List AV:=[.str x.Key,.int .i64 x.Time,.lst (fl Gh8.enc x.Posts) x.Posts.length]
structure TL where
 Text:(List UInt8)
 Cents:Int
def TL.enc (x:TL):List AV:=[.str x.Text,.int .i64 x.Cents]
structure TC where
 Key:(List UInt8)
 Vehicle:(List UInt8)
 System:(List UInt8)
 Class:Int
 Time:Int
 Lines:(List TL)
 Cents:Int
def TC.enc (x:TC):List AV:=[.str x.Key,.str x.Vehicle,.str x.System,.int .i64 x.Class,.int .i64 x.Time,.lst (fl TL.enc x.Lines) x.Lines.length,.int .i64 x.Cents]
structure Gcg where
 Device:(List UInt8)
 Seq:Int
def Gcg.enc (x:Gcg):List AV:=[.str x.Device,.int .i64 x.Seq]
structure Vv where
 ID:(List UInt8)
 Point:(List UInt8)
 Time:Int
 Tag:(List UInt8)
 Plate:(List UInt8)
 Class:Int
 Score:Int
 Sources:(List Gcg)
def Vv.enc (x:Vv):List AV:=[.str x.ID,.str x.Point,.int .i64 x.Time,.str x.Tag,.str x.Plate,.int .i64 x.Class,.int .i64 x.Score,.lst (fl Gcg.enc x.Sources) x.Sources.length]
structure Gia where
 Point:(List UInt8)
 Time:Int
 Passage:(List UInt8)
def Gia.enc (x:Gia):List AV:=[.str x.Point,.int .i64 x.Time,.str x.Passage]
structure Gd0 where
 ID:(List UInt8)
 Vehicle:(List UInt8)
 System:(List UInt8)
 Class:Int
 Stops:(List Gia)
def Gd0.enc (x:Gd0):List AV:=[.str x.ID,.str x.Vehicle,.str x.System,.int .i64 x.Class,.lst (fl Gia.enc x.Stops) x.Stops.length]
structure Gf where
 Points:(List Gr)
 Links:(List GW)
def Gf.enc (x:Gf):List AV:=[.lst (fl Gr.enc x.Points) x.Points.length,.lst (fl GW.enc x.Links) x.Links.length]
def Hs (p:(List UInt8)×Bool):AV×AV:=(.str p.1,.bool p.2)
theorem HC:∀ (x y:(List UInt8)×Bool),KY (Hs x).1 (Hs y).1=decide (fst x=fst y):=by intro x y; simp [Hs,KY]
theorem K3 (k:(List UInt8)):∀ x:(List UInt8)×Bool,KY (Hs x).1 (.str k)=decide (fst x=k):=fun x=>HC x (k,(false:Bool))
structure G4 where
 uf0:(List UInt8)
 uf1:(List UInt8)
def G4.enc (x:G4):List AV:=[.str x.uf0,.str x.uf1]
def Hr (p:G4×Bool):AV×AV:=(.agg [.str p.1.uf0,.str p.1.uf1],.bool p.2)
theorem G4.ext_iff {x y:G4}:x=y↔x.uf0=y.uf0∧x.uf1=y.uf1:=by
 cases x; cases y; simp
noncomputable instance:DecidableEq G4:=fun _ _=>Classical.propDecidable _
theorem Mi:∀ (x y:G4×Bool),KY (Hr x).1 (Hr y).1=decide (fst x=fst y):=by
 intro x y
 rw [Bool.eq_iff_iff]
 simp [Hr,G4.enc,KY,Gfq,Gku,G4.ext_iff]
theorem GeU (k:G4):∀ x:G4×Bool,KY (Hr x).1 (.agg [.str k.uf0,.str k.uf1])=decide (fst x=k):=fun x=>Mi x (k,(false:Bool))
structure Ga where
 Net:Gf
 Systems:(List Gm)
def Ga.enc (x:Ga):List AV:=[.lst (fl Gr.enc x.Net.Points) x.Net.Points.length,.lst (fl GW.enc x.Net.Links) x.Net.Links.length,.lst (fl Gm.enc x.Systems) x.Systems.length]
structure GI where
 Period:Int
 Up:(List Int)
 Down:(List Int)
 Parts:(List Int)
def GI.enc (x:GI):List AV:=[.int .i64 x.Period,.lst (fl GU x.Up) x.Up.length,.lst (fl GU x.Down) x.Down.length,.lst (fl GU x.Parts) x.Parts.length]
structure GO where
 Days:(List Int)
 Fees:(List Int)
 Limit:Int
def GO.enc (x:GO):List AV:=[.lst (fl GU x.Days) x.Days.length,.lst (fl GU x.Fees) x.Fees.length,.int .i64 x.Limit]
def Kx (p:Int×Bool):AV×AV:=(.int .i64 p.1,.bool p.2)
theorem Xi:∀ (x y:Int×Bool),KY (Kx x).1 (Kx y).1=decide (fst x=fst y):=by intro x y; simp [Kx,KY]
theorem Gnt (k:Int):∀ x:Int×Bool,KY (Kx x).1 (.int .i64 k)=decide (fst x=k):=fun x=>Xi x (k,(false:Bool))
structure Gh where
 Top:Ga
 Devices:(List Gj)
 Classes:(List Gk)
 Tags:(List Gs)
 Gap:Int
 Weak:Int
 Tariffs:(List Gd)
 Scale:GI
 Discounts:(List Gi)
 Caps:(List G9)
 Zones:(List Gg)
 Permits:(List Gw)
 Accounts:(List Gc)
 Reliefs:(List GA)
 Holidays:(List Int)
 Law:GO
 Keeping:(List Gq)
 Agency:(List UInt8)
def Gh.enc (x:Gh):List AV:=[.lst (fl Gr.enc x.Top.Net.Points) x.Top.Net.Points.length,.lst (fl GW.enc x.Top.Net.Links) x.Top.Net.Links.length,.lst (fl Gm.enc x.Top.Systems) x.Top.Systems.length,.lst (fl Gj.enc x.Devices) x.Devices.length,.lst (fl Gk.enc x.Classes) x.Classes.length,.lst (fl Gs.enc x.Tags) x.Tags.length,.int .i64 x.Gap,.int .i64 x.Weak,.lst (fl Gd.enc x.Tariffs) x.Tariffs.length,.int .i64 x.Scale.Period,.lst (fl GU x.Scale.Up) x.Scale.Up.length,.lst (fl GU x.Scale.Down) x.Scale.Down.length,.lst (fl GU x.Scale.Parts) x.Scale.Parts.length,.lst (fl Gi.enc x.Discounts) x.Discounts.length,.lst (fl G9.enc x.Caps) x.Caps.length,.lst (fl Gg.enc x.Zones) x.Zones.length,.lst (fl Gw.enc x.Permits) x.Permits.length,.lst (fl Gc.enc x.Accounts) x.Accounts.length,.lst (fl GA.enc x.Reliefs) x.Reliefs.length,.lst (fl GU x.Holidays) x.Holidays.length,.lst (fl GU x.Law.Days) x.Law.Days.length,.lst (fl GU x.Law.Fees) x.Law.Fees.length,.int .i64 x.Law.Limit,.lst (fl Gq.enc x.Keeping) x.Keeping.length,.str x.Agency]
structure GH where
 Config:Gh
def GH.enc (x:GH):List AV:=[.lst (fl Gr.enc x.Config.Top.Net.Points) x.Config.Top.Net.Points.length,.lst (fl GW.enc x.Config.Top.Net.Links) x.Config.Top.Net.Links.length,.lst (fl Gm.enc x.Config.Top.Systems) x.Config.Top.Systems.length,.lst (fl Gj.enc x.Config.Devices) x.Config.Devices.length,.lst (fl Gk.enc x.Config.Classes) x.Config.Classes.length,.lst (fl Gs.enc x.Config.Tags) x.Config.Tags.length,.int .i64 x.Config.Gap,.int .i64 x.Config.Weak,.lst (fl Gd.enc x.Config.Tariffs) x.Config.Tariffs.length,.int .i64 x.Config.Scale.Period,.lst (fl GU x.Config.Scale.Up) x.Config.Scale.Up.length,.lst (fl GU x.Config.Scale.Down) x.Config.Scale.Down.length,.lst (fl GU x.Config.Scale.Parts) x.Config.Scale.Parts.length,.lst (fl Gi.enc x.Config.Discounts) x.Config.Discounts.length,.lst (fl G9.enc x.Config.Caps) x.Config.Caps.length,.lst (fl Gg.enc x.Config.Zones) x.Config.Zones.length,.lst (fl Gw.enc x.Config.Permits) x.Config.Permits.length,.lst (fl Gc.enc x.Config.Accounts) x.Config.Accounts.length,.lst (fl GA.enc x.Config.Reliefs) x.Config.Reliefs.length,.lst (fl GU x.Config.Holidays) x.Config.Holidays.length,.lst (fl GU x.Config.Law.Days) x.Config.Law.Days.length,.lst (fl GU x.Config.Law.Fees) x.Config.Law.Fees.length,.int .i64 x.Config.Law.Limit,.lst (fl Gq.enc x.Config.Keeping) x.Config.Keeping.length,.str x.Config.Agency]
structure Vu where
 Device:(List UInt8)
 Seq:Int
 Time:Int
 Tag:(List UInt8)
 Plate:(List UInt8)
 Axles:Int
 Score:Int
def Vu.enc (x:Vu):List AV:=[.str x.Device,.int .i64 x.Seq,.int .i64 x.Time,.str x.Tag,.str x.Plate,.int .i64 x.Axles,.int .i64 x.Score]
structure Rb where
 D:Vu
 Why:Int
def Rb.enc (x:Rb):List AV:=[.str x.D.Device,.int .i64 x.D.Seq,.int .i64 x.D.Time,.str x.D.Tag,.str x.D.Plate,.int .i64 x.D.Axles,.int .i64 x.D.Score,.int .i64 x.Why]
structure GdZ where
 ID:(List UInt8)
 Zone:(List UInt8)
 Plate:(List UInt8)
 Time:Gp
def GdZ.enc (x:GdZ):List AV:=[.str x.ID,.str x.Zone,.str x.Plate,.int .i64 x.Time.From,.int .i64 x.Time.To]
structure Q9 where
 ID:(List UInt8)
 Why:Int
def Q9.enc (x:Q9):List AV:=[.str x.ID,.int .i64 x.Why]
structure Rc where
 Passages:(List Vv)
 Rejects:(List Rb)
 Trips:(List Gd0)
 Stays:(List GdZ)
 Charges:(List TC)
 Exclusions:(List Q9)
def Rc.enc (x:Rc):List AV:=[.lst (fl Vv.enc x.Passages) x.Passages.length,.lst (fl Rb.enc x.Rejects) x.Rejects.length,.lst (fl Gd0.enc x.Trips) x.Trips.length,.lst (fl GdZ.enc x.Stays) x.Stays.length,.lst (fl TC.enc x.Charges) x.Charges.length,.lst (fl Q9.enc x.Exclusions) x.Exclusions.length]
structure Ra where
 Entries:(List XW)
def Ra.enc (x:Ra):List AV:=[.lst (fl XW.enc x.Entries) x.Entries.length]
structure U6 where
 Ledger:Ra
 Done:(List TC)
def U6.enc (x:U6):List AV:=[.lst (fl XW.enc x.Ledger.Entries) x.Ledger.Entries.length,.lst (fl TC.enc x.Done) x.Done.length]
structure Gh9 where
 D:Vu
 Time:Int
 Point:(List UInt8)
 Lane:Int
 Kind:Int
def Gh9.enc (x:Gh9):List AV:=[.str x.D.Device,.int .i64 x.D.Seq,.int .i64 x.D.Time,.str x.D.Tag,.str x.D.Plate,.int .i64 x.D.Axles,.int .i64 x.D.Score,.int .i64 x.Time,.str x.Point,.int .i64 x.Lane,.int .i64 x.Kind]
structure Gcf where
 Kind:Int
 Zone:(List UInt8)
 Plate:(List UInt8)
 Time:Int
 Until:Int
def Gcf.enc (x:Gcf):List AV:=[.int .i64 x.Kind,.str x.Zone,.str x.Plate,.int .i64 x.Time,.int .i64 x.Until]
structure Ggd where
 State:Int
 Ground:Int
 Day:Int
def Ggd.enc (x:Ggd):List AV:=[.int .i64 x.State,.int .i64 x.Ground,.int .i64 x.Day]
structure Gh7 where
 ID:(List UInt8)
 Plate:(List UInt8)
 Key:(List UInt8)
 Begun:Int
 Since:Int
 Stage:Int
 Owed:Int
 Paid:Int
 Paused:Int
 Appeal:Ggd
def Gh7.enc (x:Gh7):List AV:=[.str x.ID,.str x.Plate,.str x.Key,.int .i64 x.Begun,.int .i64 x.Since,.int .i64 x.Stage,.int .i64 x.Owed,.int .i64 x.Paid,.int .i64 x.Paused,.int .i64 x.Appeal.State,.int .i64 x.Appeal.Ground,.int .i64 x.Appeal.Day]
structure G2 where
 Config:Gh
 Seen:(List Gh9)
 Rejects:(List Rb)
 Parked:(List Gcf)
 Closed:Int
 Result:Rc
 Books:U6
 Cases:(List Gh7)
 Count:Int
def G2.enc (x:G2):List AV:=[.lst (fl Gr.enc x.Config.Top.Net.Points) x.Config.Top.Net.Points.length,.lst (fl GW.enc x.Config.Top.Net.Links) x.Config.Top.Net.Links.length,.lst (fl Gm.enc x.Config.Top.Systems) x.Config.Top.Systems.length,.lst (fl Gj.enc x.Config.Devices) x.Config.Devices.length,.lst (fl Gk.enc x.Config.Classes) x.Config.Classes.length,.lst (fl Gs.enc x.Config.Tags) x.Config.Tags.length,.int .i64 x.Config.Gap,.int .i64 x.Config.Weak,.lst (fl Gd.enc x.Config.Tariffs) x.Config.Tariffs.length,.int .i64 x.Config.Scale.Period,.lst (fl GU x.Config.Scale.Up) x.Config.Scale.Up.length,.lst (fl GU x.Config.Scale.Down) x.Config.Scale.Down.length,.lst (fl GU x.Config.Scale.Parts) x.Config.Scale.Parts.length,.lst (fl Gi.enc x.Config.Discounts) x.Config.Discounts.length,.lst (fl G9.enc x.Config.Caps) x.Config.Caps.length,.lst (fl Gg.enc x.Config.Zones) x.Config.Zones.length,.lst (fl Gw.enc x.Config.Permits) x.Config.Permits.length,.lst (fl Gc.enc x.Config.Accounts) x.Config.Accounts.length,.lst (fl GA.enc x.Config.Reliefs) x.Config.Reliefs.length,.lst (fl GU x.Config.Holidays) x.Config.Holidays.length,.lst (fl GU x.Config.Law.Days) x.Config.Law.Days.length,.lst (fl GU x.Config.Law.Fees) x.Config.Law.Fees.length,.int .i64 x.Config.Law.Limit,.lst (fl Gq.enc x.Config.Keeping) x.Config.Keeping.length,.str x.Config.Agency,.lst (fl Gh9.enc x.Seen) x.Seen.length,.lst (fl Rb.enc x.Rejects) x.Rejects.length,.lst (fl Gcf.enc x.Parked) x.Parked.length,.int .i64 x.Closed,.lst (fl Vv.enc x.Result.Passages) x.Result.Passages.length,.lst (fl Rb.enc x.Result.Rejects) x.Result.Rejects.length,.lst (fl Gd0.enc x.Result.Trips) x.Result.Trips.length,.lst (fl GdZ.enc x.Result.Stays) x.Result.Stays.length,.lst (fl TC.enc x.Result.Charges) x.Result.Charges.length,.lst (fl Q9.enc x.Result.Exclusions) x.Result.Exclusions.length,.lst (fl XW.enc x.Books.Ledger.Entries) x.Books.Ledger.Entries.length,.lst (fl TC.enc x.Books.Done) x.Books.Done.length,.lst (fl Gh7.enc x.Cases) x.Cases.length,.int .i64 x.Count]
end
end Go.Proofs.YtdifanfcaemokaaGreatDoor.Av
