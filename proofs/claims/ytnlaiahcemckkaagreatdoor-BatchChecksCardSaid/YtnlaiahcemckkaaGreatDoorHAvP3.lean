import Derived.Test.YtnlaiahcemckkaaGreatDoorHAvM
import Derived.LoopN
import Derived.Scope
open Prod (fst)
open Int (tdiv tmod)
set_option linter.unusedVariables false
set_option linter.unusedSimpArgs false
namespace Go.Proofs.YtnlaiahcemckkaaGreatDoor.Av
noncomputable section
open Go.RowKit
structure St where
 tm:Tr AV
 nt:Nat
 hp:Hp
 df:List (Option FuncId×List AV)
inductive Hm where
 | normal
 | exit (id:Nat)
 | ret
 | panic (v:AV)
def AV.undef:AV:=.tup []
def opd (G:Nat→AV) (s:St):Operand→AV
 | .tmp t=>match s.tm.get t with | some v=>v | none=>.any
 | .const v=>cst v
 | .global g=>G g
 | .func f=>.fn (.func f) [] []
variable {P:Program} {G:Nat→AV} {μ μ':Nat→Option HI} {ro ro':Nat→Prop} {w w':World}
def Vw (G:Nat→AV) (μ:Nat→Option HI) (ro:Nat→Prop) (w:World):Prop:=
 ∀ g,GX μ ro w false (G g) (.pointer (some ⟨g,0,none⟩))∧∀ c,G g=.rop c 0→ro g∧∃ cs e l,w.heap[g]?=some (.cells cs e l)∧cs.size=c.length
def Gk6 (μ:Nat→Option HI) (ro:Nat→Prop) (w:World):List (Option FuncId×List AV)→List Deferred→Prop
 | [],[]=>True
 | (some f,args)::l,d::ds=>Guz μ ro w f args d∧Gk6 μ ro w l ds
 | (none,args)::l,d::ds=>(∃ r:Nat,d=⟨.collected r,#[]⟩∧GR μ ro w true args [.func (.yield r) #[] #[]])∧Gk6 μ ro w l ds
 | _,_=>False
structure G9 (G:Nat→AV) (μ:Nat→Option HI) (ro:Nat→Prop) (w:World) (s:St) (a:Act):Prop where
 tm:∀ t v,s.tm.get t=some v→GX μ ro w true v (a.tmps.getD t undef)
 nt:a.tmps.size=s.nt
 hp:GS μ ro s.hp w
 gl:Vw G μ ro w
 df:Gk6 μ ro w s.df a.defers
theorem Vw.mono (h:Vw G μ ro w) (hμ:∀ i b,μ i=some b→μ' i=some b) (hro:∀ b,ro b→ro' b) (hw:∀ b,ro b→w'.heap[b]?=w.heap[b]?):Vw G μ' ro' w':=fun g=>
 ⟨(h g).1.mono hμ hro hw,fun c hc=>by
  obtain ⟨h1,cs,e,l,h2,h3⟩:=(h g).2 c hc
  exact ⟨hro _ h1,cs,e,l,by rw [hw _ h1]; exact h2,h3⟩⟩
theorem Gk6.mono:∀ {l:List (Option FuncId×List AV)} {ds:List Deferred},Gk6 μ ro w l ds→(∀ i b,μ i=some b→μ' i=some b)→(∀ b,ro b→ro' b)→(∀ b,ro b→w'.heap[b]?=w.heap[b]?)→Gk6 μ' ro' w' l ds
 | [],[],_,_,_,_=>trivial
 | (some f,args)::l,d::ds,⟨⟨cap,vs,h1,h2⟩,h3⟩,hμ,hro,hw=>⟨⟨cap,vs,h1,h2.mono hμ hro hw⟩,h3.mono hμ hro hw⟩
 | (none,args)::l,d::ds,⟨⟨r,h1,h2⟩,h3⟩,hμ,hro,hw=>⟨⟨r,h1,h2.mono hμ hro hw⟩,h3.mono hμ hro hw⟩
 | [],_::_,h,_,_,_=>h.elim
 | (some _,_)::_,[],h,_,_,_=>h.elim
 | (none,_)::_,[],h,_,_,_=>h.elim
theorem GbW {s:St} {a:Act} (h:G9 G μ ro w s a) (x:Operand):GX μ ro w true (opd G s x) (a.eval x):=by
 cases x with
 | tmp t=>
  simp only [opd,Act.eval]
  cases ht:s.tm.get t with
  | none=>exact .any
  | some v=>exact h.tm t v ht
 | const v=>exact Qi v
 | global g=>exact (h.gl g).1.up
 | func f=>exact .fn rfl (fun i hi=>by simp at hi) rfl (fun i hi=>by simp at hi)
def Ve (μ:Nat→Option HI) (ro:Nat→Prop) (w:World):Hm→Exit→Prop
 | .normal,.normal=>True
 | .exit i,.exit j=>i=j
 | .ret,.ret=>True
 | .panic v,.panic [⟨x,false,false⟩]=>GX μ ro w true v x
 | _,_=>False
structure Up (n:Nat) (μ:Nat→Option HI) (ro:Nat→Prop) (w:World) (μ':Nat→Option HI) (ro':Nat→Prop) (w':World):Prop where
 ag:Vk n μ μ'
 up:∀ b,ro b→ro' b
 nw:∀ b,ro' b→ro b∨w.heap.size≤b∨∃ i l,μ i=some l∧l.1=b
 fr:Fr μ ro w μ' w'
theorem Up.refl (n:Nat) (μ:Nat→Option HI) (ro:Nat→Prop) (w:World):Up n μ ro w μ ro w:=⟨.refl _ _,fun _ h=>h,fun _ h=>.inl h,.refl _ _ _⟩
theorem Up.trans {n:Nat} {μ'':Nat→Option HI} {ro'':Nat→Prop} {w'':World} (h:Up n μ ro w μ' ro' w') (k:Up n μ' ro' w' μ'' ro'' w''):Up n μ ro w μ'' ro'' w'':=
 ⟨h.ag.trans k.ag,fun b hb=>k.up b (h.up b hb),fun b hb=>by
  rcases k.nw b hb with h1 | h1 | ⟨i,l,h1,h2⟩
  ·exact h.nw b h1
  ·exact .inr (.inl (Nat.le_trans h.fr.size h1))
  ·rcases h.fr.new i l h1 with ⟨j,m,h3,h4⟩ | h3
   ·exact .inr (.inr ⟨j,m,h3,h4.trans h2⟩)
   ·exact .inr (.inl (h2 ▸ h3)),h.fr.trans k.fr h.up⟩
theorem Up.mono {n m:Nat} (h:Up n μ ro w μ' ro' w') (hm:m≤n):Up m μ ro w μ' ro' w':=⟨h.ag.mono hm,h.up,h.nw,h.fr⟩
theorem Up.of_fr {n:Nat} (h:Vk n μ μ') (k:Fr μ ro w μ' w'):Up n μ ro w μ' ro w':=⟨h,fun _ h=>h,fun _ h=>.inl h,k⟩
def MI (n:Nat) (G:Nat→AV) (μ:Nat→Option HI) (ro:Nat→Prop) (w:World) (e:Hm) (s':St) (e':Exit) (a':Act) (w':World):Prop:=
 ∃ μ' ro',Up n μ ro w μ' ro' w'∧Ve μ' ro' w' e e'∧G9 G μ' ro' w' s' a'
theorem MI.noGoto {n:Nat} {e:Hm} {s':St} {l:Nat} {a':Act}:¬ MI n G μ ro w e s' (.goto l) a' w':=by
 rintro ⟨_,_,_,h,_⟩; cases e <;> exact h
theorem MI.noOut {n:Nat} {e:Hm} {s':St} {a':Act}:¬ MI n G μ ro w e s' .outgrown a' w':=by
 rintro ⟨_,_,_,h,_⟩; cases e <;> exact h
theorem MI.trans {n:Nat} {e:Hm} {s:St} {ex:Exit} {a:Act} {w1:World} {μ1:Nat→Option HI} {ro1:Nat→Prop} (h1:Up n μ ro w μ1 ro1 w1)
  (k:MI n G μ1 ro1 w1 e s ex a w'):MI n G μ ro w e s ex a w':=
 let ⟨μ',ro',k1,k2,k3⟩:=k
 ⟨μ',ro',h1.trans k1,k2,k3⟩
def GI (P:Program) (G:Nat→AV) (n:Nat) (c:Code) (s:St) (e:Hm) (s':St):Prop:=
 ∀ μ ro a w,G9 G μ ro w s a→c.wp P (MI n G μ ro w e s') a w
theorem GI.skip {n:Nat} {s:St}:GI P G n .skip s .normal s:=fun μ ro a w h=>wp_skip ⟨μ,ro,.refl _ _ _ _,trivial,h⟩
theorem GI.exit {n:Nat} {s:St} {id:Nat}:GI P G n (.exit id) s (.exit id) s:=fun μ ro a w h=>wp_exit ⟨μ,ro,.refl _ _ _ _,rfl,h⟩
theorem GI.ret {n:Nat} {s:St}:GI P G n .ret s .ret s:=fun μ ro a w h=>wp_ret ⟨μ,ro,.refl _ _ _ _,trivial,h⟩
theorem GI.label {n:Nat} {s:St} {l:Nat}:GI P G n (.label l) s .normal s:=fun μ ro a w h=>wp_label ⟨μ,ro,.refl _ _ _ _,trivial,h⟩
theorem GI.seq {n:Nat} {c d:Code} {s s1 s':St} {e:Hm} (h:GI P G n c s .normal s1) (k:GI P G n d s1 e s'):GI P G n (.seq c d) s e s':=fun μ ro a w hs=>
 wp_seq (wp_mono (h μ ro a w hs) fun e' a1 w1 hp=>by
  obtain ⟨μ1,ro1,h1,h3,h4⟩:=hp
  cases e' <;> simp only [Ve] at h3
  exact wp_mono (k μ1 ro1 a1 w1 h4) fun e'' a2 w2 hq=>MI.trans h1 hq)
theorem MI.other {n:Nat} {e:Hm} {s':St} {e':Exit} {a':Act} {K:Act→World→Prop} (he:e≠.normal) (h:MI n G μ ro w e s' e' a' w'):Exit.then K (MI n G μ ro w e s') e' a' w':=by
 obtain ⟨μ1,ro1,h1,h3,h4⟩:=h
 cases e' <;> first
  | exact ⟨μ1,ro1,h1,h3,h4⟩
  | (cases e <;> simp only [Ve] at h3; exact absurd rfl he)
theorem GI.seq_out {n:Nat} {c d:Code} {s s':St} {e:Hm} (he:e≠.normal) (h:GI P G n c s e s'):GI P G n (.seq c d) s e s':=fun μ ro a w hs=>
 wp_seq (wp_mono (h μ ro a w hs) fun e' a1 w1 hp=>MI.other he hp)
theorem GI.cond {n:Nat} {c:Operand} {x y:Code} {s s':St} {e:Hm} {t:Bool} (hc:opd G s c=.bool t) (h:GI P G n (if t then x else y) s e s'):GI P G n (.cond c x y) s e s':=fun μ ro a w hs=>by
 have:=GbW hs c
 rw [hc] at this
 cases hv:a.eval c <;> rw [hv] at this <;> cases this
 exact wp_cond hv (h μ ro a w hs)
def Hm.block (id:Nat):Hm→Hm
 | .exit i=>bif Nat.beq i id then .normal else .exit i
 | e=>e
theorem GI.block {n id:Nat} {c:Code} {s s':St} {e:Hm} (h:GI P G n c s e s'):GI P G n (.block id c) s (e.block id) s':=fun μ ro a w hs=>
 wp_block (wp_mono (h μ ro a w hs) fun e' a1 w1 hp=>by
  obtain ⟨μ1,ro1,h1,h3,h4⟩:=hp
  cases e <;> cases e' <;> simp only [Ve] at h3 <;> first | exact h3.elim | skip
  ·exact ⟨μ1,ro1,h1,trivial,h4⟩
  ·rename_i i j
   subst h3
   simp only [Exit.inBlock,Hm.block]
   by_cases hi:i=id
   ·subst hi
    simp only [if_true,Nat.beq_refl,cond_true]
    exact ⟨μ1,ro1,h1,trivial,h4⟩
   ·rw [if_neg hi]
    have:Nat.beq i id=false:=by
     cases hh:Nat.beq i id
     ·rfl
     ·exact absurd (Nat.eq_of_beq_eq_true hh) hi
    simp only [this,cond_false]
    exact ⟨μ1,ro1,h1,rfl,h4⟩
  ·exact ⟨μ1,ro1,h1,trivial,h4⟩
  ·exact ⟨μ1,ro1,h1,h3,h4⟩)
theorem GI.scope {n:Nat} {c:Code} {s s':St} {e:Hm} (h:GI P G n c s e s'):GI P G n (.scope c) s e s':=fun μ ro a w hs=>
 wp_scope_straight (wp_mono (h μ ro a w hs) fun e' a1 w1 hp=>by
  cases e' <;> first | exact hp | exact absurd hp MI.noGoto)
theorem GnA:∀ (id:Nat) (k k':List Item),exitTo id k=some k'→k'.length≤k.length
 | id,[],k',h=>by simp [exitTo] at h
 | id,x::k,k',h=>by
  have ih:=GnA id k k'
  cases x <;> simp only [exitTo] at h <;> first
   | (have:=ih h; simp only [List.length_cons]; omega)
   | skip
  split at h
  ·simp only [sJ] at h; subst h; simp
  ·have:=ih h; simp only [List.length_cons]; omega
theorem Gax {Q:Exit→Act→World→Prop} {c:Code} {a:Act} {w:World} (hg:∀ l a w,¬ Q (.goto l) a w) (ho:∀ a w,¬ Q .outgrown a w)
  (h:c.wp P (Exit.then (fun a' w'=>(Code.loop c).wp P Q a' w') Q) a w):(Code.loop c).wp P Q a w:=by
 intro b k cs
 obtain ⟨e,a1,w1,hq,harr⟩:=h b (.inLoop c::k) cs
 have tail:∀ {m m1 mX:Machine},step P m=.next m1→m≠mX→Steps P m mX→Steps P m1 mX:=by
  rintro m m1 mX hs hne ⟨n,hn⟩
  cases n with
  | zero=>simp [runN] at hn; exact absurd hn hne
  | succ n=>simp only [runN,hs] at hn; exact ⟨n,hn⟩
 cases e with
 | normal=>
  obtain ⟨e2,a2,w2,hq2,harr2⟩:=hq b k cs
  have hst:step P (lone (b.at a1 (.code (.loop c)::k)) cs w1)=_:=step_loop
  refine ⟨e2,a2,w2,hq2,.of_steps (.head step_loop (Steps.trans harr (.one step_inLoop))) ?_⟩
  have len:∀ {k':List Item} {a3:Act} {w3:World},k'.length≤k.length→lone (b.at a1 (.code (.loop c)::k)) cs w1≠lone (b.at a3 k') cs w3:=fun hk e=>by
   have:=congrArg (fun m:Machine=>(m.gs.map fun g=>g.frame.todo.length)) e
   simp [lone,Frame.at] at this
   omega
  have mode:∀ {fr:Frame} {w3:World},fr.mode≠.run→lone (b.at a1 (.code (.loop c)::k)) cs w1≠lone fr cs w3:=fun hk e=>by
   have:=congrArg (fun m:Machine=>(m.gs.map fun g=>g.frame.mode)) e
   simp [lone,Frame.at] at this
   exact hk this.symm
  cases e2 with
  | normal=>exact tail hst (len (Nat.le_refl _)) harr2
  | exit id=>exact fun k' hk=>tail hst (len (GnA _ _ _ hk)) (harr2 k' hk)
  | goto l=>exact absurd hq2 (hg _ _ _)
  | ret=>
   obtain ⟨todo,hs⟩:=harr2
   exact ⟨todo,tail hst (mode (by simp)) hs⟩
  | panic ch=>
   obtain ⟨todo,hs⟩:=harr2
   exact ⟨todo,tail hst (mode (by simp)) hs⟩
  | outgrown=>exact absurd hq2 (ho _ _)
 | exit id=>exact ⟨_,a1,w1,hq,.of_steps (.one step_loop) (.pass (x:=.inLoop c) rfl (fun _ _=>.inl (by simp)) harr)⟩
 | goto l=>exact absurd hq (hg _ _ _)
 | ret=>exact ⟨_,a1,w1,hq,.of_steps (.one step_loop) (.pass (x:=.inLoop c) rfl (fun _ _=>.inl (by simp)) harr)⟩
 | panic ch=>exact ⟨_,a1,w1,hq,.of_steps (.one step_loop) (.pass (x:=.inLoop c) rfl (fun _ _=>.inl (by simp)) harr)⟩
 | outgrown=>exact absurd hq (ho _ _)
theorem GI.loop {n:Nat} {c:Code} {s s1 s':St} {e:Hm} (h:GI P G n c s .normal s1) (k:GI P G n (.loop c) s1 e s'):GI P G n (.loop c) s e s':=fun μ ro a w hs=>
 Gax (fun _ _ _=>MI.noGoto) (fun _ _=>MI.noOut) (wp_mono (h μ ro a w hs) fun e' a1 w1 hp=>by
  obtain ⟨μ1,ro1,h1,h3,h4⟩:=hp
  cases e' <;> simp only [Ve] at h3
  exact wp_mono (k μ1 ro1 a1 w1 h4) fun e'' a2 w2 hq=>MI.trans h1 hq)
theorem GI.loop_out {n:Nat} {c:Code} {s s':St} {e:Hm} (he:e≠.normal) (h:GI P G n c s e s'):GI P G n (.loop c) s e s':=fun μ ro a w hs=>
 Gax (fun _ _ _=>MI.noGoto) (fun _ _=>MI.noOut) (wp_mono (h μ ro a w hs) fun e' a1 w1 hp=>MI.other he hp)
end
noncomputable section
open Go.RowKit
variable {P:Program} {G:Nat→AV} {μ μ':Nat→Option HI} {ro ro':Nat→Prop} {w w':World}
inductive CO where
 | ret (v:AV)
 | pan (v:AV)
def GfS (μ:Nat→Option HI) (ro:Nat→Prop) (w:World):CO→Ending→Prop
 | .ret v,.returned x=>GX μ ro w true v x
 | .pan v,.panicked [⟨x,false,false⟩]=>GX μ ro w true v x
 | _,_=>False
def GmT (n:Nat) (μ:Nat→Option HI) (ro:Nat→Prop) (w:World) (r:CO) (h':Hp) (e:Ending) (w':World):Prop:=
 ∃ μ' ro',Up n μ ro w μ' ro' w'∧GfS μ' ro' w' r e∧GS μ' ro' h' w'
def Hl (P:Program) (G:Nat→AV) (f:FuncId) (args:List AV) (h:Hp) (r:CO) (h':Hp):Prop:=
 ∀ μ ro w (vs:Array Value),GR μ ro w true args vs.toList→GS μ ro h w→Vw G μ ro w→Calls P f vs w (GmT h.nx μ ro w r h')
structure Gvb where
 ok:List AV→Hp→Bool
 req:List AV→Hp→Prop
 res:List AV→Hp→CO×Hp
def Gvm (P:Program) (G:Nat→AV) (f:FuncId) (S:Gvb):Prop:=∀ args h,S.ok args h=true→S.req args h→Hl P G f args h (S.res args h).1 (S.res args h).2
inductive Pl where
 | t (k:Nat)
 | c (id off:Nat)
inductive Tf where
 | vec (p:Pl) (z:Nat) (e:TypeId)
 | wid (p:Pl)
 | nar (p:Pl)
 | frz (ps:List Pl) (c:List AV) (n:Nat)
 | pln (id:Nat)
 | eqt (p:Pl) (v:AV)
 | eqc (id:Nat) (c:List AV)
 | nl (p:Pl)
 | fgt (p:Pl)
 | shr (id n:Nat)
 | unp (id:Nat)
 | mp (id:Nat) (es:List (AV×AV))
inductive CH where
 | op (g:Option Bool) (h:Ht)
 | ret (g:Option Bool) (args:List AV) (r:AV) (blks:List G6)
 | br (β:Bool)
 | cut (e:Hm) (s':St) (ρ:List Nat) (tms:List (Nat×AV)) (blks:List G6)
 | fcut (m:Nat) (e:Hm) (tms':List (Nat×AV)) (blks':List G6) (ρ:List Nat) (tms:List (Nat×AV)) (blks:List G6)
 | fcuta (k m:Nat) (e:Hm) (tms':List (Nat×AV)) (blks':List G6) (ρ:List Nat) (tms:List (Nat×AV)) (blks:List G6)
 | draw (fps:List (List Nat))
 | tr (f:Tf)
 | trp (f:Tf)
 | spec (S:Gvb)
def CH.gd:List CH→Option Bool
 | .op g _::_=>g
 | .ret g _ _ _::_=>g
 | _=>none
def CH.hint:List CH→Ht
 | .op _ h::_=>h
 | []=>.c
 | _=>.a
def St.put (s:St) (dst:Option Tmp) (v:AV):W St:=
 match dst with
 | none=>W.pure s
 | some d=>match Nat.blt d s.nt with | true=>W.pure { s with tm:=s.tm.put d (some v) } | false=>W.fail
theorem G9.put {s:St} {a:Act} {dst:Option Tmp} {v:AV} {x:Value} (h:G9 G μ ro w s a) (hv:GX μ ro w true v x):(s.put dst v).sat fun s'=>G9 G μ ro w s' (a.put dst x)∧s'.hp=s.hp:=by
 unfold St.put
 split
 ·exact W.sat_pure ⟨h,rfl⟩
 ·rename_i d
  split
  ·rename_i hb
   have hd:d<a.tmps.size:=by rw [h.nt]; exact nB hb
   refine W.sat_pure ⟨⟨fun t u ht=>?_,by simp [Act.put,h.nt],h.hp,h.gl,h.df⟩,rfl⟩
   simp only [Tr.get_put] at ht
   simp only [Act.put]
   by_cases e:t=d
   ·rw [if_pos e] at ht
    simp only [sJ] at ht
    subst ht; subst e
    have:(a.tmps.setIfInBounds t x).getD t undef=x:=by simp [Array.getD,hd]
    rw [this]; exact hv
   ·rw [if_neg e] at ht
    have:=h.tm t u ht
    have e2:(a.tmps.setIfInBounds d x).getD t undef=a.tmps.getD t undef:=by
     simp only [Array.getD,Array.size_setIfInBounds]
     split
     ·exact Array.getElem_setIfInBounds_ne (by assumption) (fun e3=>e e3.symm)
     ·rfl
    rw [e2]; exact this
  ·exact W.sat_fail
theorem G9.up {s:St} {a:Act} {h':Hp} (h:G9 G μ ro w s a) (u:Up s.hp.nx μ ro w μ' ro' w') (hh:GS μ' ro' h' w'):G9 G μ' ro' w' { s with hp:=h' } a:=by
 have e:=u.ag.ext h.hp.nx
 exact ⟨fun t v ht=>(h.tm t v ht).mono e u.up u.fr.block,h.nt,hh,h.gl.mono e u.up u.fr.block,h.df.mono e u.up u.fr.block⟩
def GqV (ops:Array Oper) (s:St) (o:Oper) (β:Option Bool):W (Bool×St):=
 match o.guard with
 | none=>W.pure (true,s)
 | some (j,want)=>
  match (ops[j]?).bind (·.dst) with
  | some d=>
   match s.tm.get d,Nat.blt d s.nt with
   | some (.bool b),true=>
    match β with
    | some β=>(W.owe (b=β)).bind fun _=>W.pure (β==want,{ s with tm:=s.tm.put d (some (.bool β)) })
    | none=>W.pure (b==want,s)
   | some (.tup []),true=>W.pure (false,s)
   | _,_=>W.fail
  | none=>W.fail
theorem Gup {ops:Array Oper} {s:St} {o:Oper} {β:Option Bool} {a:Act} (h:G9 G μ ro w s a):
  (GqV ops s o β).sat fun r=>G9 G μ ro w r.2 a∧r.2.hp=s.hp∧Region.wanted o (yielded ops a.tmps)=r.1:=by
 unfold GqV
 split
 ·rename_i hg
  exact W.sat_pure ⟨h,rfl,by simp [Region.wanted,hg]⟩
 ·rename_i j want hg
  split
  ·rename_i d hd
   split
   ·rename_i b hget hlt
    have hv:=h.tm d _ hget
    have hd':d<a.tmps.size:=by rw [h.nt]; exact nB hlt
    have hval:a.tmps.getD d undef=.bool b:=by
     generalize a.tmps.getD d undef=x at hv
     cases hv; rfl
    have hy:yielded ops a.tmps j=some b:=by
     simp only [yielded,hd,Option.bind_some,GnK a.tmps d undef hd',hval]
    split
    ·rename_i β
     refine W.sat_bind W.sat_owe fun _ hb=>W.sat_pure ⟨⟨fun t v ht=>?_,h.nt,h.hp,h.gl,h.df⟩,rfl,?_⟩
     ·simp only [Tr.get_put] at ht
      by_cases e:t=d
      ·rw [if_pos e] at ht
       simp only [sJ] at ht
       subst ht; subst e
       rw [hval,hb]; exact .bool
      ·rw [if_neg e] at ht
       exact h.tm t v ht
     ·simp only [Region.wanted,hg,hy,hb]
      cases β <;> cases want <;> rfl
    ·refine W.sat_pure ⟨h,rfl,?_⟩
     simp only [Region.wanted,hg,hy]
     cases b <;> cases want <;> rfl
   ·rename_i hget hlt
    have hv:=h.tm d _ hget
    have hd':d<a.tmps.size:=by rw [h.nt]; exact nB hlt
    have hy:yielded ops a.tmps j=none:=by
     obtain ⟨vs,hx,_⟩:=hv.tup_inv
     simp only [yielded,hd,Option.bind_some,GnK a.tmps d undef hd',hx]
    exact W.sat_pure ⟨h,rfl,by simp only [Region.wanted,hg,hy]; rfl⟩
   ·exact W.sat_fail
  ·exact W.sat_fail
/-! ### a call by its contract -/
def Um:List G6→Hp→Hp
 | [],h=>h
 | b::l,h=>Um l (h.new b.ob)
def sh1 (k:Nat):AV→AV
 | .ptr i o=>.ptr (i+k) o
 | .sl i o l c e z=>.sl (i+k) o l c e z
 | .vec i n z=>.vec (i+k) n z
 | .mapr i=>.mapr (i+k)
 | .yld i=>.yld (i+k)
 | .stp i=>.stp (i+k)
 | v=>v
def sh2 (k:Nat):AV→AV
 | .agg c=>.agg (c.map (sh1 k))
 | v=>sh1 k v
def sh (k:Nat):AV→AV
 | .tup c=>.tup (c.map (sh2 k))
 | v=>sh2 k v
def GwR:AV→Bool
 | .ptr _ _ | .sl .. | .vec .. | .mapr _ | .yld _ | .stp _=>true
 | .ifc _ v=>v.pl1
 | v=>v.pl1
def GwS:AV→Bool
 | .agg c=>c.all GwR
 | v=>GwR v
def oks:AV→Bool
 | .tup c=>c.all GwS
 | v=>GwS v
def G5 (P:Program) (G:Nat→AV) (f:FuncId) (args:List AV) (r:AV) (blks:List G6):Prop:=
 ∀ ro w (vs:Array Value),(∀ b,ro b→b<w.heap.size)→GR (fun _=>none) ro w false args vs.toList→Vw G (fun _=>none) ro w→
  Calls P f vs w (GmT 0 (fun _=>none) ro w (.ret r) (Um blks ⟨.e,0⟩))
theorem GX.any_mu {μ'':Nat→Option HI} {v:AV} {x:Value} (h:GX μ ro w false v x):GX μ'' ro w false v x:=by
 generalize ho:false=o at h
 induction h with
 | any=>exact .any
 | bool=>exact .bool
 | int=>exact .int
 | str h=>exact .str h
 | ptr h=>cases ho
 | nilp=>exact .nilp
 | rop vs hb hc _ ih=>exact .rop vs hb hc fun i hi=>ih i hi rfl
 | sl h h1 h2 h3=>cases ho
 | vec h h1 h3=>cases ho
 | vecn=>cases ho
 | lst vs hb hc _ hn ih=>exact .lst vs hb hc (fun i hi=>ih i hi rfl) hn
 | lstn=>exact .lstn
 | nils=>exact .nils
 | nen=>exact .nen
 | agg hn _ ih=>exact .agg hn fun i hi=>ih i hi ho
 | tup hn _ ih=>exact .tup hn fun i hi=>ih i hi ho
 | fn hn _ hm _ ih ih'=>exact .fn hn (fun i hi=>ih i hi ho) hm (fun i hi=>ih' i hi ho)
 | nilf=>exact .nilf
 | ifc _ ih=>exact .ifc (ih ho)
 | nili=>exact .nili
 | mapr h=>cases ho
 | yld h=>cases ho
 | stp h=>cases ho
 | nilm=>exact .nilm
theorem Vw.any {μ'':Nat→Option HI} (h:Vw G μ ro w):Vw G μ'' ro w:=fun g=>⟨(h g).1.any_mu,(h g).2⟩
def AV.dat1:AV→Bool
 | .bool _ | .int _ _ | .str _ | .nilp | .nils | .nen | .nilf | .nili | .ptr _ _ | .sl .. | .vec .. | .mapr _ | .nilm | .yld _ | .stp _=>true
 | _=>false
def AV.dat:AV→Bool
 | .agg c | .tup c=>c.all AV.dat1
 | v=>v.dat1
theorem GX.dat1 {o:Bool} {v:AV} {x:Value} (h:GX μ ro w o v x) (hd:v.dat1=true):GX μ ro' w o v x:=by
 cases h <;> first
  | (simp [AV.dat1] at hd; done)
  | constructor
 all_goals assumption
theorem GX.dat {o:Bool} {v:AV} {x:Value} (h:GX μ ro w o v x) (hd:v.dat=true):GX μ ro' w o v x:=by
 have key:∀ {c:List AV} {i:Nat},c.all AV.dat1=true→i<c.length→(c.getD i .any).dat1=true:=fun {c i} hp hi=>by
  rw [List.all_eq_true] at hp
  rw [List.getD_eq_getElem?_getD,List.getElem?_eq_getElem hi]
  exact hp _ (List.getElem_mem hi)
 cases h with
 | agg hn hr=>exact .agg hn fun i hi=>(hr i hi).dat1 (key hd hi)
 | tup hn hr=>exact .tup hn fun i hi=>(hr i hi).dat1 (key hd hi)
 | any=>cases hd
 | bool=>exact .bool
 | int=>exact .int
 | str h=>exact .str h
 | ptr h=>exact .ptr h
 | nilp=>exact .nilp
 | rop vs hb hc hr=>cases hd
 | sl h h1 h2 h3=>exact .sl h h1 h2 h3
 | vec h h1 h3=>exact .vec h h1 h3
 | vecn=>exact .vecn
 | lst vs hb hc hr hn=>cases hd
 | lstn=>exact .lstn
 | nils=>exact .nils
 | nen=>exact .nen
 | fn hn hr hm hs=>cases hd
 | nilf=>exact .nilf
 | ifc h=>cases hd
 | nili=>exact .nili
 | mapr h=>exact .mapr h
 | yld h=>exact .yld h
 | stp h=>exact .stp h
 | nilm=>exact .nilm
def Gvu (h:Hp) (v v':AV):W Bool:=
 match v with
 | .sl id off len cap ex z=>
  match v',h.m.get id with
  | .lst c n,some (.blk k)=>match k.pl with | true=>(W.owe (sub k.c off (mu len z)=c∧n=len∧off+mu len z≤k.c.length∧len≤cap)).bind fun _=>W.pure true | false=>W.fail
  | _,_=>W.fail
 | .vec id n z=>
  match v',h.m.get id with
  | .lst c n',some (.blk k)=>match k.pl with | true=>(W.owe (k.c=c∧n'=n∧k.c.length=mu n z)).bind fun _=>W.pure true | false=>W.fail
  | _,_=>W.fail
 | .nils=>match v' with | .lst [] 0=>W.pure false | .nils=>W.pure false | .any=>W.pure false | _=>W.fail
 | v=>match v.pl with | true=>(match v' with | .any=>W.pure false | v'=>(W.owe (v=v')).bind fun _=>W.pure false) | false=>W.fail
def Gti (v v':AV):AV:=match v' with | .any=>v | v'=>v'
def Gvv:List AV→List AV→List AV
 | v::l,v'::l'=>Gti v v'::Gvv l l'
 | _,l'=>l'
def GwV (h:Hp):List AV→List AV→W Bool
 | [],[]=>W.pure false
 | v::l,v'::l'=>(Gvu h v v').bind fun a=>(GwV h l l').bind fun b=>W.pure (a||b)
 | _,_=>W.fail
def roC (u:Bool) (ro:Nat→Prop) (h:Hp) (μ:Nat→Option HI) (b:Nat):Prop:=ro b∨(u=true∧∃ i k l,h.m.get i=some k∧μ i=some l∧l.1=b)
theorem Gtt {h:Hp} {v v':AV} {x:Value} (hv:GX μ ro w true v x) (hh:GS μ ro h w):(Gvu h v v').sat fun u=>GX μ (roC u ro h μ) w false (Gti v v') x:=by
 unfold Gvu
 split
 ·rename_i id off len cap ex z
  split
  ·rename_i c n k hk
   split
   ·rename_i hpl
    refine W.sat_bind W.sat_owe fun _ ⟨h1,h2,h3,h4⟩=>W.sat_pure ?_
    cases hv with
    | sl hb hc1 hc2 hc3=>
     rename_i cap' l
     have hob:=hh.obsM id _ _ hk hb
     obtain ⟨cs,fr,g1,g0,g2,g3,g4,g5⟩:=hob.get
     subst h2
     rw [hpl] at g5
     rw [Rm] at h1 h3
     subst h1
     refine .lst (fun i=>cs.getD (off+i) undef) (fun _=>⟨.inr ⟨rfl,id,_,l,hk,hb,rfl⟩,rfl⟩) (fun i hi=>?_) (fun i hi=>?_) (Nat.le_trans h4 hc1)
     ·have:=(Gam hi).2.1
      exact Zb (off:=off+i) g1 (by omega)
     ·obtain ⟨e1,e2,_⟩:=Gam hi
      rw [e1]
      exact (g5 _ e2).mono (fun _ _ h=>h) (fun _ h=>.inl h) (fun _ _=>rfl)
   ·exact W.sat_fail
  ·exact W.sat_fail
 ·rename_i id n z
  split
  ·rename_i c n' k hk
   split
   ·rename_i hpl
    refine W.sat_bind W.sat_owe fun _ ⟨h1,h2,h3⟩=>W.sat_pure ?_
    subst h1; subst h2
    rw [Rm] at h3
    cases hv with
    | vecn=>
     have hc0:k.c=[]:=List.length_eq_zero_iff.1 (by simpa using h3)
     rw [hc0]
     exact .lstn
    | vec hb hc1 hc3=>
     rename_i cap' l
     have hob:=hh.obsM id _ _ hk hb
     obtain ⟨cs,fr,g1,g0,g2,g3,g4,g5⟩:=Mu.get hob
     rw [hpl] at g5
     refine .lst (fun i=>cs.getD i undef) (fun _=>⟨.inr ⟨rfl,id,_,l,hk,hb,rfl⟩,rfl⟩) (fun i hi=>?_) (fun i hi=>?_) hc1
     ·rw [Nat.zero_add]; exact Zb g1 (by omega)
     ·exact (g5 i hi).mono (fun _ _ h=>h) (fun _ h=>.inl h) (fun _ _=>rfl)
   ·exact W.sat_fail
  ·exact W.sat_fail
 ·cases hv
  split
  ·exact W.sat_pure .lstn
  ·exact W.sat_pure .nils
  ·exact W.sat_pure .nils
  ·exact W.sat_fail
 ·split
  ·rename_i hp
   have hv2:=(hv.pl hp (o':=false)).mono (μ':=μ) (ro':=roC false ro h μ) (w':=w) (fun _ _ h=>h) (fun _ h=>.inl h) (fun _ _=>rfl)
   split
   ·exact W.sat_pure hv2
   ·rename_i hna
    refine W.sat_bind W.sat_owe fun _ he=>W.sat_pure ?_
    have:Gti v v'=v':=by
     unfold Gti
     split
     ·exact absurd rfl (hna ·)
     ·rfl
    rw [this,← he]
    exact hv2
  ·exact W.sat_fail
theorem Gqt {u v:Bool} {h:Hp} (huv:u=true→v=true):∀ b,roC u ro h μ b→roC v ro h μ b:=fun b hb=>by
 rcases hb with h | ⟨h1,h2⟩
 ·exact .inl h
 ·exact .inr ⟨huv h1,h2⟩
theorem Gqi {h:Hp} (hh:GS μ ro h w):∀ (l l':List AV) (xs:List Value),GR μ ro w true l xs→(GwV h l l').sat fun u=>GR μ (roC u ro h μ) w false (Gvv l l') xs
 | [],[],xs,hr=>by
  have:xs=[]:=List.length_eq_zero_iff.1 (by simpa using hr.1)
  subst this
  exact W.sat_pure GR.nil
 | v::l,v'::l',xs,hr=>by
  obtain ⟨x,xs',rfl,h1,h2⟩:=hr.head
  exact W.sat_bind (Gtt h1 hh) fun a ha=>W.sat_bind (Gqi hh l l' xs' h2) fun b hb=>W.sat_pure (GR.cons (ha.mono (fun _ _ h=>h) (Gqt (by simp; exact fun h=>.inl h)) (fun _ _=>rfl)) (hb.mono (fun _ _ h=>h) (Gqt (by simp; exact fun h=>.inr h)) (fun _ _=>rfl)))
 | [],_::_,_,_=>W.sat_fail
 | _::_,[],_,_=>W.sat_fail
theorem Km:∀ (l:List G6) (h:Hp) (i:Nat),(Um l h).nx=h.nx+l.length∧(Um l h).m.get i=if h.nx≤i∧i<h.nx+l.length then (l[i - h.nx]?).map G6.ob else h.m.get i
 | [],h,i=>⟨rfl,by simp [Um]; intro h1 h2; omega⟩
 | b::l,h,i=>by
  obtain ⟨h1,h2⟩:=Km l (h.new b.ob) i
  simp only [Um,List.length_cons]
  rw [h1,h2]
  refine ⟨by simp only [Hp.new]; omega,?_⟩
  simp only [Hp.new,Tr.get_put]
  by_cases e:i=h.nx
  ·subst e
   rw [if_neg (by omega),if_pos rfl,if_pos (by omega)]
   simp
  ·by_cases c:h.nx+1≤i∧i<h.nx+1+l.length
   ·rw [if_pos c,if_pos (by omega),show i - h.nx=(i - (h.nx+1))+1 by omega]
    simp
   ·rw [if_neg c,if_neg e,if_neg (by omega)]
theorem JY {q:AV→Bool} {c:List AV} {i:Nat} (hp:c.all q=true) (hi:i<c.length):q (c.getD i .any)=true:=by
 rw [List.all_eq_true] at hp
 rw [List.getD_eq_getElem?_getD,List.getElem?_eq_getElem hi]
 exact hp _ (List.getElem_mem hi)
theorem Ql {q:AV→AV} {c:List AV} {i:Nat} (hi:i<c.length):(c.map q).getD i .any=q (c.getD i .any):=by
 simp [List.getD,List.getElem?_eq_getElem hi]
theorem Gs8 {k:Nat} {v:AV} {x:Value} {μ'':Nat→Option HI} (hμ:∀ i b,μ i=some b→μ'' (i+k)=some b) (h:GX μ ro w true v x) (hp:GwR v=true):GX μ'' ro w true (sh1 k v) x:=by
 cases h with
 | ptr h=>exact .ptr (hμ _ _ h)
 | sl h h1 h2 h3=>exact .sl (hμ _ _ h) h1 h2 h3
 | vec h h1 h3=>exact .vec (hμ _ _ h) h1 h3
 | vecn=>exact .vecn
 | ifc h=>exact .ifc ((h.pl1 (o':=false) hp).any_mu.up)
 | any=>cases hp
 | bool=>exact .bool
 | int=>exact .int
 | str h=>exact .str h
 | nilp=>exact .nilp
 | rop vs hb hc hr=>exact .rop vs hb hc fun i hi=>(hr i hi).any_mu
 | lst vs hb hc hr hn=>exact .lst vs hb hc (fun i hi=>(hr i hi).any_mu) hn
 | lstn=>exact .lstn
 | nils=>exact .nils
 | nen=>exact .nen
 | agg hn hr=>cases hp
 | tup hn hr=>cases hp
 | fn hn hr hm hs=>exact ((GX.fn (o:=true) hn hr hm hs).pl1 (o':=false) hp).any_mu.up
 | nilf=>exact .nilf
 | nili=>exact .nili
 | mapr h=>exact .mapr (hμ _ _ h)
 | yld h=>exact .yld (hμ _ _ h)
 | stp h=>exact .stp (hμ _ _ h)
 | nilm=>exact .nilm
theorem Gs9 {k:Nat} {v:AV} {x:Value} {μ'':Nat→Option HI} (hμ:∀ i b,μ i=some b→μ'' (i+k)=some b) (h:GX μ ro w true v x) (hp:GwS v=true):GX μ'' ro w true (sh2 k v) x:=by
 cases v with
 | agg c=>
  cases h with
  | agg hn hr=>
   refine .agg (by simpa using hn) fun i hi=>?_
   simp only [List.length_map] at hi
   rw [Ql hi]
   exact Gs8 hμ (hr i hi) (JY hp hi)
 | _=>exact Gs8 hμ h hp
theorem GuD {k:Nat} {v:AV} {x:Value} {μ'':Nat→Option HI} (hμ:∀ i b,μ i=some b→μ'' (i+k)=some b) (h:GX μ ro w true v x) (hp:oks v=true):GX μ'' ro w true (sh k v) x:=by
 cases v with
 | tup c=>
  cases h with
  | tup hn hr=>
   refine .tup (by simpa using hn) fun i hi=>?_
   simp only [List.length_map] at hi
   rw [Ql hi]
   exact Gs9 hμ (hr i hi) (JY hp hi)
 | _=>exact Gs9 hμ h hp
def Xh:List G6→Prop
 | []=>True
 | b::l=>(∀ x ∈ b.c,x.dat1=true)∧Xh l
theorem GlQ:∀ {l:List G6} {i:Nat} {b:G6},Xh l→l[i]?=some b→∀ x ∈ b.c,x.dat1=true
 | [],i,b,_,h=>by simp at h
 | c::l,0,b,hd,h=>by simp only [List.getElem?_cons_zero,sJ] at h; subst h; exact hd.1
 | c::l,i+1,b,hd,h=>GlQ hd.2 (by simpa using h)
def GvB (P:Program) (G:Nat→AV) (f:FuncId) (args args':List AV) (r:AV) (blks:List G6) (h:Hp):W (CO×Hp):=
 (GwV h args args').bind fun u=>
 match oks r&&(blks.all (fun b=>b.pl&&b.it.isNone)&&(!u||r.dat)) with
 | true=>(match u with | true=>W.owe (Xh blks) | false=>W.pure ()).bind fun _=>(W.owe (G5 P G f (Gvv args args') r blks)).bind fun _=>W.pure (.ret (sh h.nx r),Um blks h)
 | false=>W.fail
theorem GrE {f:FuncId} {args args':List AV} {r:AV} {blks:List G6} {h:Hp} {vs:Array Value} (hargs:GR μ ro w true args vs.toList) (hh:GS μ ro h w) (hg:Vw G μ ro w):
  (GvB P G f args args' r blks h).sat fun x=>Calls P f vs w (GmT h.nx μ ro w x.1 x.2):=by
 refine W.sat_bind (Gqi hh args args' _ hargs) fun u hu=>?_
 split
 ·rename_i hb
  simp only [Bool.and_eq_true,Bool.or_eq_true,Bool.not_eq_true'] at hb
  obtain ⟨hb1,hb2,hb3⟩:=hb
  refine W.sat_bind (Q:=fun _=>u=true→Xh blks) ?_ fun _ hdat=>W.sat_bind W.sat_owe fun _ hret=>W.sat_pure ?_
  ·cases u
   ·exact W.sat_pure (fun h=>by cases h)
   ·exact W.sat_mono W.sat_owe fun _ h _=>h
  have hlt:∀ b,roC u ro h μ b→b<w.heap.size:=fun b hb=>by
   rcases hb with h1 | ⟨_,i,k,l,h1,h2,h3⟩
   ·exact hh.old b h1
   ·exact h3 ▸ hh.lt i l h2
  refine (hret (roC u ro h μ) w vs hlt ⟨hu.1,fun i hi=>(hu.2 i hi).any_mu⟩ (hg.any.mono (μ:=fun _=>none) (fun _ _ h=>h) (fun _ h=>.inl h) (fun _ _=>rfl))).mono ?_
  rintro e w1 ⟨μ1,ro1,hup,hco,hh1⟩
  have hold:∀ b,b<w.heap.size→w1.heap[b]?=w.heap[b]?:=fun b hb=>hup.fr.rest b hb (fun i l hi=>by cases hi)
  have hfresh:∀ i l,μ1 i=some l→w.heap.size≤l.1:=fun i l hi=>by
   rcases hup.fr.new i l hi with ⟨j,m,hj,_⟩ | h1
   ·cases hj
   ·exact h1
  let μ2:Nat→Option HI:=fun i=>if i<h.nx then μ i else μ1 (i - h.nx)
  let ro2:Nat→Prop:=fun b=>ro1 b∧(ro b∨w.heap.size≤b)
  have hμ2:∀ i b,μ1 i=some b→μ2 (i+h.nx)=some b:=fun i b hi=>by
   simp only [μ2]; rw [if_neg (by omega),Nat.add_sub_cancel]; exact hi
  have hag:Vk h.nx μ μ2:=fun i hi=>by simp only [μ2]; rw [if_pos hi]
  have hro2:∀ b,ro b→ro2 b:=fun b hb=>⟨hup.up b (.inl hb),.inl hb⟩
  have hnw:∀ b,ro2 b→ro b∨w.heap.size≤b:=fun b hb=>hb.2
  have hsame:u=false→∀ b,ro1 b→ro2 b:=fun hu b hb=>⟨hb,by
   rcases hup.nw b hb with h1 | h1 | ⟨_,_,h1,_⟩
   ·rcases h1 with h1 | ⟨h1,_⟩
    ·exact .inl h1
    ·rw [hu] at h1; cases h1
   ·exact .inr h1
   ·cases h1⟩
  have hfr:Fr μ ro w μ2 w1:=⟨hup.fr.os,hup.fr.tape,hup.fr.output,hup.fr.size,fun b hb=>hold b (hh.old b hb),fun b hb _=>hold b hb,fun i l hi=>by
   simp only [μ2] at hi
   split at hi
   ·exact .inl ⟨i,l,hi,rfl⟩
   ·exact .inr (hfresh _ _ hi)⟩
  refine ⟨μ2,ro2,⟨hag,hro2,fun b hb=>(hnw b hb).imp_right .inl,hfr⟩,?_,?_⟩
  · -- the result
   cases e with
   | returned x=>
    have hx:GX μ1 ro1 w1 true r x:=hco
    have:GX μ2 ro1 w1 true (sh h.nx r) x:=GuD hμ2 hx hb1
    show GX μ2 ro2 w1 true (sh h.nx r) x
    cases u with
    | false=>exact this.mono (fun _ _ h=>h) (hsame rfl) (fun _ _=>rfl)
    | true=>
     have hd:r.dat=true:=by simpa using hb3
     exact GuD hμ2 (hx.dat hd) hb1
   | panicked c=>exact hco.elim
   | outgrown=>exact hco.elim
  · -- the heap
   have hget:=fun i=>(Km blks h i).2
   have hget1:=fun i=>(Km blks ⟨.e,0⟩ i).2
   have hin:∀ i k,(Um blks h).m.get i=some k→(i<h.nx∧h.m.get i=some k)∨(h.nx≤i∧(Um blks ⟨.e,0⟩).m.get (i - h.nx)=some k):=fun i k hi=>by
    rw [hget i] at hi
    split at hi
    ·rename_i hc
     refine .inr ⟨hc.1,?_⟩
     rw [hget1,if_pos (by simp only; omega)]
     exact hi
    ·refine .inl ⟨?_,hi⟩
     rcases Nat.lt_or_ge i h.nx with h1 | h1
     ·exact h1
     ·rcases hh.obs i k hi with ⟨b,hb,_⟩ | ⟨_,_,h2⟩
      ·rw [hh.nx i h1] at hb; cases hb
      ·exact h2
   have hold2:∀ b,ro b→w1.heap[b]?=w.heap[b]?:=fun b hb=>hold b (hh.old b hb)
   constructor
   ·intro i k hi
    rcases hin i k hi with ⟨h1,h2⟩ | ⟨h1,h2⟩
    ·rcases hh.obs i k h2 with ⟨b,hb,hob⟩ | ⟨q1,q2,q3⟩
     ·exact .inl ⟨b,by simp only [μ2]; rw [if_pos h1]; exact hb,hob.mono (hag.ext hh.nx) hro2 hold2 (hold _ (hh.lt i b hb))⟩
     ·exact .inr ⟨by simp only [μ2]; rw [if_pos h1]; exact q1,q2,by rw [(Km blks h 0).1]; omega⟩
    ·rcases hh1.obs _ k h2 with ⟨b,hb,hob⟩ | ⟨q1,q2,q3⟩
     rotate_left
     ·rw [(Km blks ⟨.e,0⟩ 0).1] at q3
      simp only at q3
      exact .inr ⟨by simp only [μ2]; rw [if_neg (by omega)]; exact q1,q2,by rw [(Km blks h 0).1]; omega⟩
     refine .inl ⟨b,by simp only [μ2]; rw [if_neg (by omega)]; exact hb,?_⟩
     rw [hget1] at h2
     split at h2
     ·simp only [Option.map_eq_some_iff] at h2
      obtain ⟨kb,hkb,rfl⟩:=h2
      have hkb2:kb.pl=true∧kb.it=none:=by
       rw [List.all_eq_true] at hb2
       have:=hb2 kb (List.mem_of_getElem? hkb)
       simpa using this
      have hpl:=hkb2.1
      have hobk:kb.ob=.blk kb:=by simp [G6.ob,hkb2.2]
      rw [hobk] at hob ⊢
      obtain ⟨cs,fr,g1,g0,g2,g3,g4,g5⟩:=hob.get
      refine ⟨⟨cs,fr,g1,g0,g2,g3,g4,fun j hj=>?_⟩⟩
      have hrep:=g5 j hj
      rw [hpl] at hrep ⊢
      cases u with
      | false=>exact (GX.any_mu hrep).mono (fun _ _ h=>h) (hsame rfl) (fun _ _=>rfl)
      | true=>
       have hd:=GlQ (hdat rfl) hkb
       refine (GX.any_mu hrep).dat1 (hd _ ?_)
       rw [List.getD_eq_getElem?_getD,List.getElem?_eq_getElem hj]
       exact List.getElem_mem hj
     ·cases h2
   ·intro i j k l b c hi hj hbi hbj hbc
    simp only [μ2] at hbi hbj
    rcases hin i k hi with ⟨h1,h2⟩ | ⟨h1,h2⟩ <;> rcases hin j l hj with ⟨h3,h4⟩ | ⟨h3,h4⟩
    ·rw [if_pos h1] at hbi; rw [if_pos h3] at hbj
     exact hh.inj i j k l b c h2 h4 hbi hbj hbc
    ·rw [if_pos h1] at hbi; rw [if_neg (by omega)] at hbj
     have:=hh.lt i b hbi
     have:=hfresh _ _ hbj
     omega
    ·rw [if_neg (by omega)] at hbi; rw [if_pos h3] at hbj
     have:=hh.lt j c hbj
     have:=hfresh _ _ hbi
     omega
    ·rw [if_neg (by omega)] at hbi hbj
     have:=hh1.inj _ _ k l b c h2 h4 hbi hbj hbc
     omega
   ·intro i k b hi hbi hr
    simp only [μ2] at hbi
    rcases hin i k hi with ⟨h1,h2⟩ | ⟨h1,h2⟩
    ·rw [if_pos h1] at hbi
     rcases hr.2 with h3 | h3
     ·exact hh.own i k b h2 hbi h3
     ·have:=hh.lt i b hbi
      omega
    ·rw [if_neg (by omega)] at hbi
     exact hh1.own _ k b h2 hbi hr.1
   ·intro i b hbi
    simp only [μ2] at hbi
    split at hbi
    ·exact Nat.lt_of_lt_of_le (hh.lt i b hbi) hup.fr.size
    ·exact hh1.lt _ b hbi
   ·intro b hb
    exact hh1.old b hb.1
   ·intro i hi
    rw [(Km blks h 0).1] at hi
    simp only [μ2]
    rw [if_neg (by omega)]
    exact hh1.nx _ (by rw [(Km blks ⟨.e,0⟩ 0).1]; simp only; omega)
 ·exact W.sat_fail
end
noncomputable section
open Go.RowKit
variable {P:Program} {G:Nat→AV} {μ μ':Nat→Option HI} {ro ro':Nat→Prop} {w w':World}
abbrev Kz:=FuncId→List AV→Hp→List CH→W (CO×Hp×List CH)
def Gj7 (s:St) (dst:Option Tmp) (r:CO) (h:Hp) (hs:List CH):W (Hm×St×List CH):=
 match r with
 | .ret v=>(({ s with hp:=h }:St).put dst v).bind fun s1=>W.pure (.normal,s1,hs)
 | .pan v=>W.pure (.panic v,{ s with hp:=h },hs)
def V4 (P:Program) (G:Nat→AV) (callB:Kz) (ops:Array Oper) (i:Nat) (s:St) (hs:List CH):W (Hm×St×List CH):=
 match ops[i]? with
 | none=>W.fail
 | some o=>
  (GqV ops s o (CH.gd hs)).bind fun g=>
  match g.1 with
  | false=>(g.2.put o.dst .undef).bind fun s1=>W.pure (.normal,s1,hs.tail)
  | true=>
   (Gvg P (CH.hint hs) (opd G g.2) o g.2.hp).bind fun r=>
   match r with
   | .val v h=>(({ g.2 with hp:=h }:St).put o.dst v).bind fun s1=>W.pure (.normal,s1,hs.tail)
   | .skip h=>(({ g.2 with hp:=h }:St).put o.dst .undef).bind fun s1=>W.pure (.normal,s1,hs.tail)
   | .call f args=>
    match hs with
    | .ret _ args' r blks::hs'=>(GvB P G f args args' r blks g.2.hp).bind fun x=>Gj7 g.2 o.dst x.1 x.2 hs'
    | hs=>(callB f args g.2.hp hs.tail).bind fun x=>Gj7 g.2 o.dst x.1 x.2.1 x.2.2
   | .dfr f args=>(({ g.2 with df:=(some f,args)::g.2.df }:St).put o.dst .undef).bind fun s1=>W.pure (.normal,s1,hs.tail)
   | .pan v=>W.pure (.panic v,g.2,hs.tail)
def Hm.here:Hm→Prop
 | .normal | .panic _=>True
 | _=>False
def GoE (ops:Array Oper) (i:Nat) (a a':Act):Prop:=∀ o,ops[i]?=some o→∃ x,a'.tmps=(a.put o.dst x).tmps
def Va (P:Program) (G:Nat→AV) (ops:Array Oper) (i:Nat) (s:St) (e:Hm) (s':St):Prop:=
 ∀ μ ro a w (Q:Exit→Act→World→Prop) (K:Act→World→Prop),G9 G μ ro w s a→
  (∀ μ' ro' a' w',Up s.hp.nx μ ro w μ' ro' w'→G9 G μ' ro' w' s' a'→(e=.normal→GoE ops i a a'→K a' w')∧∀ v x,e=.panic v→GX μ' ro' w' true v x→Q (.panic [⟨x,false,false⟩]) a' w')→
  wpOp P ops Q i K a w
theorem GkV {o:Bool}:GX μ ro w o AV.undef Go.undef:=.tup rfl fun i hi=>by simp at hi
theorem ZJ {callB:Kz} (hcall:∀ f args h hs,(callB f args h hs).sat fun r=>Hl P G f args h r.1 r.2.1) {ops:Array Oper} {i:Nat} {s:St} {hs:List CH}:
  (V4 P G callB ops i s hs).sat fun r=>Va P G ops i s r.1 r.2.1∧r.1.here:=by
 intro r ps he hok
 have main:∀ μ ro a w (Q:Exit→Act→World→Prop) (K:Act→World→Prop),G9 G μ ro w s a→(V4 P G callB ops i s hs).sat fun r=>
   ((∀ μ' ro' a' w',Up s.hp.nx μ ro w μ' ro' w'→G9 G μ' ro' w' r.2.1 a'→(r.1=.normal→GoE ops i a a'→K a' w')∧∀ v x,r.1=.panic v→GX μ' ro' w' true v x→Q (.panic [⟨x,false,false⟩]) a' w')→
    wpOp P ops Q i K a w):=by
  intro μ ro a w Q K hs0
  unfold V4
  split
  ·exact W.sat_fail
  ·rename_i o ho
   have putIn:∀ x,GoE ops i a (a.put o.dst x):=fun x o' ho'=>by rw [ho] at ho'; cases ho'; exact ⟨x,rfl⟩
   refine W.sat_bind (Gup hs0) fun g ⟨hst,hhp,hwant⟩=>?_
   have hwp:∀ {r:Hm×St×List CH},g.1=true→((∀ μ' ro' a' w',Up s.hp.nx μ ro w μ' ro' w'→G9 G μ' ro' w' r.2.1 a'→(r.1=.normal→GoE ops i a a'→K a' w')∧∀ v x,r.1=.panic v→GX μ' ro' w' true v x→Q (.panic [⟨x,false,false⟩]) a' w')→o.upon P a K Q ((execOp a.eval o).run P w))→
     ((∀ μ' ro' a' w',Up s.hp.nx μ ro w μ' ro' w'→G9 G μ' ro' w' r.2.1 a'→(r.1=.normal→GoE ops i a a'→K a' w')∧∀ v x,r.1=.panic v→GX μ' ro' w' true v x→Q (.panic [⟨x,false,false⟩]) a' w')→wpOp P ops Q i K a w):=fun hg h hpost=>by
    unfold wpOp
    rw [ho]
    simp only
    rw [hwant,hg,if_pos rfl]
    exact .inl (h hpost)
   split
   ·rename_i hg
    refine W.sat_bind (G9.put hst GkV) fun s1 ⟨hs1,hhp1⟩=>W.sat_pure fun hpost=>?_
    unfold wpOp
    rw [ho]
    simp only
    rw [hwant,hg,if_neg (by simp)]
    exact (hpost μ ro _ w (.refl _ _ _ _) hs1).1 rfl (putIn _)
   ·rename_i hg
    refine W.sat_bind (Gvr (fun x=>GbW hst x) hst.hp) fun r hr=>?_
    rw [hhp] at hr
    have call:∀ {f:FuncId} {vs:Array Value} {x:CO} {h':Hp} {hs':List CH},(execOp a.eval o).run P w=.ok (.enter f vs) w→Calls P f vs w (GmT s.hp.nx μ ro w x h')→
      (Gj7 g.2 o.dst x h' hs').sat fun r=>((∀ μ' ro' a' w',Up s.hp.nx μ ro w μ' ro' w'→G9 G μ' ro' w' r.2.1 a'→(r.1=.normal→GoE ops i a a'→K a' w')∧∀ v x,r.1=.panic v→GX μ' ro' w' true v x→Q (.panic [⟨x,false,false⟩]) a' w')→wpOp P ops Q i K a w):=by
     intro f vs x h' hs' hrun hc r1 ps1 he1 hok1
     refine hwp hg fun hpost=>?_
     rw [hrun,Oper.upon_enter]
     refine hc.mono ?_
     rintro e w1 ⟨μ1,ro1,hup,hco,hh1⟩
     have hup':Up g.2.hp.nx μ ro w μ1 ro1 w1:=by rw [hhp]; exact hup
     have hst1:=hst.up hup' hh1
     unfold Gj7 at he1
     split at he1
     ·rename_i v
      cases e <;> simp only [GfS] at hco
      rename_i x1
      have:=W.sat_bind (G9.put hst1 hco (dst:=o.dst)) (fun s1 hs1=>W.sat_pure (Q:=fun r:Hm×St×List CH=>r.1=.normal∧G9 G μ1 ro1 w1 r.2.1 (a.put o.dst x1)) ⟨rfl,hs1.1⟩) r1 ps1 he1 hok1
      exact (hpost μ1 ro1 _ w1 hup this.2).1 this.1 (putIn _)
     ·rename_i v
      simp only [W.pure,sJ,Prod.mk.injEq] at he1
      obtain ⟨rfl,rfl⟩:=he1
      cases e with
      | returned x1=>exact hco.elim
      | outgrown=>exact hco.elim
      | panicked chain=>
       rcases chain with _ | ⟨⟨x1,r1,g1⟩,_ | ⟨p2,ps⟩⟩
       ·exact hco.elim
       ·cases r1 <;> cases g1 <;> first | exact hco.elim | skip
        exact (hpost μ1 ro1 a w1 hup hst1).2 v x1 rfl hco
       ·cases r1 <;> cases g1 <;> exact hco.elim
    cases r with
    | val v h'=>
     obtain ⟨v',w1,μ1,h1,h2,h3,h4,h5⟩:=hr
     have hup:=Up.of_fr h2 h5
     have hst1:=hst.up (by rw [hhp]; exact hup) h4
     refine W.sat_bind (G9.put hst1 h3) fun s1 ⟨hs1,_⟩=>W.sat_pure (hwp hg fun hpost=>?_)
     rw [h1,Oper.upon_value]
     exact (hpost μ1 ro _ w1 hup hs1).1 rfl (putIn _)
    | skip h'=>
     obtain ⟨w1,h1,h4,h5⟩:=hr
     have hup:=Up.of_fr (.refl s.hp.nx μ) h5
     have hst1:=hst.up (by rw [hhp]; exact hup) h4
     refine W.sat_bind (G9.put hst1 GkV) fun s1 ⟨hs1,_⟩=>W.sat_pure (hwp hg fun hpost=>?_)
     rw [h1,Oper.upon_skip]
     exact (hpost μ ro _ w1 hup hs1).1 rfl (putIn _)
    | call f args=>
     obtain ⟨vs,h1,h2⟩:=hr
     simp only
     split
     ·exact W.sat_bind (GrE h2 hst.hp hst.gl) fun x hx=>call h1 (by rw [hhp] at hx; exact hx)
     ·exact W.sat_bind (hcall f args g.2.hp _) fun x hx=>call h1 (by have:=hx μ ro w vs h2 hst.hp hst.gl; rw [hhp] at this; exact this)
    | dfr f args=>
     obtain ⟨d,h1,h2⟩:=hr
     have hst1:G9 G μ ro w ({ g.2 with df:=(some f,args)::g.2.df }:St) { a with defers:=d::a.defers }:=⟨hst.tm,hst.nt,hst.hp,hst.gl,⟨h2,hst.df⟩⟩
     refine W.sat_bind (G9.put hst1 GkV) fun s1 ⟨hs1,_⟩=>W.sat_pure (hwp hg fun hpost=>?_)
     rw [h1,Oper.upon_defer]
     refine (hpost μ ro _ w (.refl _ _ _ _) hs1).1 rfl fun o' ho'=>⟨undef,?_⟩
     rw [ho] at ho'; cases ho'
     cases o.dst <;> rfl
    | pan v=>
     obtain ⟨v',h1,h2⟩:=hr
     refine W.sat_pure (hwp hg fun hpost=>?_)
     rw [h1,Oper.upon_panic]
     exact (hpost μ ro a w (.refl _ _ _ _) hst).2 v v' rfl h2
 refine ⟨fun μ ro a w Q K hs0 hpost=>main μ ro a w Q K hs0 r ps he hok hpost,?_⟩
 have put_here:∀ {s:St} {dst:Option Tmp} {v:AV} {hs:List CH},((s.put dst v).bind fun s1=>W.pure (Hm.normal,s1,hs)).sat fun r=>r.1.here:=fun {s dst v hs}=>W.sat_bind (Q:=fun _=>True) (fun _ _ _ _=>trivial) fun _ _=>W.sat_pure trivial
 have aft_here:∀ {s:St} {dst:Option Tmp} {x:CO} {h:Hp} {hs:List CH},(Gj7 s dst x h hs).sat fun r=>r.1.here:=fun {s dst x h hs}=>by
  cases x
  ·exact put_here
  ·exact W.sat_pure trivial
 have triv:∀ {α:Type} {m:W α},m.sat fun _=>True:=fun _ _ _ _=>trivial
 have:(V4 P G callB ops i s hs).sat fun r=>r.1.here:=by
  unfold V4
  split
  ·exact W.sat_fail
  ·refine W.sat_bind triv fun g _=>?_
   split
   ·exact put_here
   ·refine W.sat_bind triv fun r _=>?_
    cases r
    ·exact put_here
    ·exact put_here
    ·simp only
     split
     ·exact W.sat_bind triv fun _ _=>aft_here
     ·exact W.sat_bind triv fun _ _=>aft_here
    ·exact put_here
    ·exact W.sat_pure trivial
 exact this r ps he hok
/-! ### fewer facts -/
def R7 (n:Nat) (s s0:St):Prop:=
 ∀ (G:Nat→AV) μ ro w a,G9 G μ ro w s a→∃ (μ0:Nat→Option HI) (ro0:Nat→Prop),Vk n μ μ0∧(∀ i l,μ0 i=some l→∃ j m,μ j=some m∧m.1=l.1)∧(∀ b,ro b→ro0 b)∧
  (∀ b,ro0 b→ro b∨∃ i l,μ i=some l∧l.1=b)∧G9 G μ0 ro0 w s0 a
theorem R7.refl {n:Nat} {s:St}:R7 n s s:=fun G μ ro w a h=>⟨μ,ro,.refl _ _,fun i l h=>⟨i,l,h,rfl⟩,fun _ h=>h,fun _ h=>.inl h,h⟩
theorem R7.trans {n:Nat} {s s1 s2:St} (h:R7 n s s1) (k:R7 n s1 s2):R7 n s s2:=fun G μ ro w a hs=>by
 obtain ⟨μ1,ro1,h1,h2,h3,h4,h5⟩:=h G μ ro w a hs
 obtain ⟨μ2,ro2,k1,k2,k3,k4,k5⟩:=k G μ1 ro1 w a h5
 refine ⟨μ2,ro2,h1.trans k1,fun i l hi=>?_,fun b hb=>k3 b (h3 b hb),fun b hb=>?_,k5⟩
 ·obtain ⟨j,m,hj,e⟩:=k2 i l hi
  obtain ⟨j',m',hj',e'⟩:=h2 j m hj
  exact ⟨j',m',hj',e'.trans e⟩
 ·rcases k4 b hb with h | ⟨i,l,hi,e⟩
  ·exact h4 b h
  ·obtain ⟨j',m',hj',e'⟩:=h2 i l hi
   exact .inr ⟨j',m',hj',e'.trans e⟩
theorem GI.pre {n:Nat} {c:Code} {s s0 s':St} {e:Hm} (hsub:R7 n s s0) (h:GI P G n c s0 e s'):GI P G n c s e s':=fun μ ro a w hst=>by
 obtain ⟨μ0,ro0,h1,h2,h4,h5,h3⟩:=hsub G μ ro w a hst
 refine wp_mono (h μ0 ro0 a w h3) fun e' a' w' ⟨μ',ro',k1,k2,k3⟩=>⟨μ',ro',⟨h1.trans k1.ag,fun b hb=>k1.up b (h4 b hb),fun b hb=>?_,(k1.fr.weaken h4).pre h2⟩,k2,k3⟩
 rcases k1.nw b hb with h | h | ⟨i,l,q1,q2⟩
 ·exact (h5 b h).imp_right .inr
 ·exact .inr (.inl h)
 ·obtain ⟨j,m,q3,q4⟩:=h2 i l q1
  exact .inr (.inr ⟨j,m,q3,q4.trans q2⟩)
theorem Up.subr {n:Nat} {μ0:Nat→Option HI} {ro0:Nat→Prop} (k1:Up n μ ro w μ' ro' w') (h1:Vk n μ' μ0) (h2:∀ i l,μ0 i=some l→∃ j m,μ' j=some m∧m.1=l.1) (h4:∀ b,ro' b→ro0 b)
  (h5:∀ b,ro0 b→ro' b∨∃ i l,μ' i=some l∧l.1=b):Up n μ ro w μ0 ro0 w':=by
 refine ⟨k1.ag.trans h1,fun b hb=>h4 b (k1.up b hb),fun b hb=>?_,⟨k1.fr.os,k1.fr.tape,k1.fr.output,k1.fr.size,k1.fr.block,k1.fr.rest,fun i l hi=>?_⟩⟩
 ·rcases h5 b hb with h | ⟨i,l,hi,e⟩
  ·exact k1.nw b h
  ·rcases k1.fr.new i l hi with ⟨j,m,hj,hm⟩ | hl
   ·exact .inr (.inr ⟨j,m,hj,hm.trans e⟩)
   ·exact .inr (.inl (e ▸ hl))
 ·obtain ⟨j,m,hj,hm⟩:=h2 i l hi
  rcases k1.fr.new j m hj with ⟨j',m',hj',hm'⟩ | hl
  ·exact .inl ⟨j',m',hj',hm'.trans hm⟩
  ·exact .inr (by omega)
theorem GI.post {n:Nat} {c:Code} {s s1 s':St} {e:Hm} (he:∀ v,e≠.panic v) (h:GI P G n c s e s1) (hsub:R7 n s1 s'):GI P G n c s e s':=fun μ ro a w hst=>by
 refine wp_mono (h μ ro a w hst) fun e' a' w' ⟨μ',ro',k1,k2,k3⟩=>?_
 obtain ⟨μ0,ro0,h1,h2,h4,h5,h3⟩:=hsub G μ' ro' w' a' k3
 refine ⟨μ0,ro0,k1.subr h1 h2 h4 h5,?_,h3⟩
 cases e with
 | panic v=>exact absurd rfl (he v)
 | _=>cases e' <;> first | exact k2 | exact k2.elim
end
noncomputable section
open Go.RowKit
variable {P:Program} {G:Nat→AV} {μ μ':Nat→Option HI} {ro ro':Nat→Prop} {w w':World}
def Hh (x:Nat):List Nat→Bool
 | []=>false
 | y::l=>match Nat.beq x y with | true=>true | false=>Hh x l
theorem KW {x:Nat}:∀ {l:List Nat},Hh x l=true↔x ∈ l
 | []=>by simp [Hh]
 | y::l=>by
  simp only [Hh,List.mem_cons]
  cases h:Nat.beq x y with
  | true=>simp [Nat.eq_of_beq_eq_true h]
  | false=>
   have:x≠y:=Nat.ne_of_beq_eq_false h
   simp [this,KW]
theorem GkE {x y:Nat} {l:List Nat}:Hh x (y::l)=if x=y then true else Hh x l:=by
 show (match Nat.beq x y with | true=>true | false=>Hh x l)=_
 cases h:Nat.beq x y with
 | true=>rw [if_pos (Nat.eq_of_beq_eq_true h)]
 | false=>rw [if_neg (Nat.ne_of_beq_eq_false h)]
def rho (r:List Nat) (i:Nat):Nat:=r.getD i 0
def ren (r:List Nat):Nat→AV→AV
 | 0,v=>match v with | .ptr i o=>.ptr (rho r i) o | .sl i o l c e z=>.sl (rho r i) o l c e z | .vec i n z=>.vec (rho r i) n z | .mapr i=>.mapr (rho r i) | .yld i=>.yld (rho r i) | .stp i=>.stp (rho r i) | v=>v
 | k+1,v=>match v with | .ptr i o=>.ptr (rho r i) o | .sl i o l c e z=>.sl (rho r i) o l c e z | .vec i n z=>.vec (rho r i) n z | .mapr i=>.mapr (rho r i) | .yld i=>.yld (rho r i) | .stp i=>.stp (rho r i) | .agg c=>.agg (c.map (ren r k)) | .tup c=>.tup (c.map (ren r k)) | .fn f a c=>.fn f (a.map (ren r k)) (c.map (ren r k)) | .ifc t v=>.ifc t (ren r k v) | v=>v
def Gir (m:Nat):Nat→AV→Bool
 | 0,v=>match v with | .ptr i _=>Nat.blt i m | .sl i _ _ _ _ _=>Nat.blt i m | .vec i _ _=>Nat.blt i m | .mapr i=>Nat.blt i m | .yld i=>Nat.blt i m | .stp i=>Nat.blt i m | v=>v.pl1
 | k+1,v=>match v with | .ptr i _=>Nat.blt i m | .sl i _ _ _ _ _=>Nat.blt i m | .vec i _ _=>Nat.blt i m | .mapr i=>Nat.blt i m | .yld i=>Nat.blt i m | .stp i=>Nat.blt i m | .agg c=>c.all (Gir m k) | .tup c=>c.all (Gir m k) | .fn _ a c=>a.all (Gir m k)&&c.all (Gir m k) | .ifc _ v=>Gir m k v | v=>v.pl1
theorem Gpq {μ'':Nat→Option HI} {v:AV} {x:Value} {o:Bool} (h:GX μ ro w o v x) (hp:v.pl1=true):GX μ'' ro w o v x:=by
 have:=(h.pl1 (o':=false) hp).any_mu (μ'':=μ'')
 cases o
 ·exact this
 ·exact this.up
theorem RY {r:List Nat} (hμ:∀ i,i<r.length→μ' i=μ (rho r i)):∀ (k:Nat) {o:Bool} {v:AV} {x:Value},Gir r.length k v=true→GX μ ro w o (ren r k v) x→GX μ' ro w o v x
 | 0,o,v,x,hs,h=>by
  cases v <;> simp only [Gir] at hs <;> simp only [ren] at h
  case ptr i f=>cases h with | ptr h=>exact .ptr ((hμ i (nB hs)).trans h)
  case mapr i=>cases h with | mapr h=>exact .mapr ((hμ i (nB hs)).trans h)
  case yld i=>cases h with | yld h=>exact .yld ((hμ i (nB hs)).trans h)
  case stp i=>cases h with | stp h=>exact .stp ((hμ i (nB hs)).trans h)
  case sl=>cases h with | sl h h1 h2 h3=>exact .sl ((hμ _ (nB hs)).trans h) h1 h2 h3
  case vec=>cases h with
   | vec h h1 h3=>exact .vec ((hμ _ (nB hs)).trans h) h1 h3
   | vecn=>exact .vecn
  all_goals exact Gpq h hs
 | k+1,o,v,x,hs,h=>by
  cases v <;> simp only [Gir] at hs <;> simp only [ren] at h
  case ptr i f=>cases h with | ptr h=>exact .ptr ((hμ i (nB hs)).trans h)
  case mapr i=>cases h with | mapr h=>exact .mapr ((hμ i (nB hs)).trans h)
  case yld i=>cases h with | yld h=>exact .yld ((hμ i (nB hs)).trans h)
  case stp i=>cases h with | stp h=>exact .stp ((hμ i (nB hs)).trans h)
  case sl=>cases h with | sl h h1 h2 h3=>exact .sl ((hμ _ (nB hs)).trans h) h1 h2 h3
  case vec=>cases h with
   | vec h h1 h3=>exact .vec ((hμ _ (nB hs)).trans h) h1 h3
   | vecn=>exact .vecn
  case agg c=>
   cases h with
   | agg hn hr=>
    refine .agg (by simpa using hn) fun i hi=>RY hμ k (JY hs hi) ?_
    have:=hr i (by simpa using hi)
    rwa [Ql hi] at this
  case tup c=>
   cases h with
   | tup hn hr=>
    refine .tup (by simpa using hn) fun i hi=>RY hμ k (JY hs hi) ?_
    have:=hr i (by simpa using hi)
    rwa [Ql hi] at this
  case ifc t v=>cases h with | ifc h=>exact .ifc (RY hμ k hs h)
  case fn f a c=>
   simp only [Bool.and_eq_true] at hs
   cases h with
   | fn hn hr hm hs'=>
    refine .fn (by simpa using hn) (fun i hi=>RY hμ k (JY hs.1 hi) ?_) (by simpa using hm) fun i hi=>RY hμ k (JY hs.2 hi) ?_
    ·have:=hr i (by simpa using hi)
     rwa [Ql hi] at this
    ·have:=hs' i (by simpa using hi)
     rwa [Ql hi] at this
  all_goals exact Gpq h hs
def MA (r:List Nat) (b:G6):G6:={ b with c:=match b.pl with | true=>b.c | false=>b.c.map (ren r 6) }
def Gj1 (m:Nat) (b:G6):Bool:=b.pl||b.c.all (Gir m 6)
def Gcx:List Nat→Bool
 | []=>true
 | x::l=>!Hh x l&&Gcx l
theorem GmR:∀ {l:List Nat},Gcx l=true→∀ i j,i<l.length→j<l.length→rho l i=rho l j→i=j
 | [],_,i,_,h,_,_=>by simp at h
 | x::l,hb,i,j,hi,hj,e=>by
  simp only [Gcx,Bool.and_eq_true,Bool.not_eq_true'] at hb
  have no:∀ k,k<l.length→rho l k≠x:=fun k hk he=>by
   have:x ∈ l:=by rw [← he]; unfold rho; rw [List.getD_eq_getElem?_getD,List.getElem?_eq_getElem hk]; exact List.getElem_mem hk
   rw [KW.2 this] at hb; cases hb.1
  cases i with
  | zero=>
   cases j with
   | zero=>rfl
   | succ j=>exact absurd e.symm (no j (by simpa using hj))
  | succ i=>
   cases j with
   | zero=>exact absurd e (no i (by simpa using hi))
   | succ j=>rw [GmR hb.2 i j (by simpa using hi) (by simpa using hj) e]
def R4 (m:Tr Ob) (r:List Nat):List Nat→List G6→Prop
 | i::l,b::bs=>m.get i=some (MA r b).ob∧R4 m r l bs
 | [],[]=>True
 | _,_=>False
theorem V7 {m:Tr Ob} {r:List Nat}:∀ {l:List Nat} {bs:List G6},R4 m r l bs→l.length=bs.length∧∀ i b,bs[i]?=some b→m.get (rho l i)=some (MA r b).ob
 | [],[],_=>⟨rfl,fun i b h=>by simp at h⟩
 | i::l,b::bs,⟨h1,h2⟩=>by
  obtain ⟨h3,h4⟩:=V7 h2
  refine ⟨by simp [h3],fun k b' hb=>?_⟩
  cases k with
  | zero=>simp only [List.getElem?_cons_zero,sJ] at hb; subst hb; exact h1
  | succ k=>exact h4 k b' (by simpa using hb)
 | [],_::_,h=>h.elim
 | _::_,[],h=>h.elim
theorem K5.any_mu {kd:KK} {es:List (AV×AV)} {ms:List MapEntry} (h:K5 kd μ ro w es ms):K5 kd μ' ro w es ms:=by
 induction h with
 | nil=>exact .nil
 | cons hk hv _ ih=>exact .cons hk hv.any_mu ih
theorem Ul.it_mu {b:HI} {t:It} (h:Ul μ ro w b t.ob):Ul μ' ro w b t.ob:=by
 cases t with
 | str s p=>exact h
 | map kd es=>obtain ⟨ms,cl,p,h1,h2,h3,h4⟩:=h; exact ⟨ms,cl,p,h1,h2,h3.any_mu,h4⟩
 | rm m kd es ms cl=>obtain ⟨h0,h1,h3,h4⟩:=h; exact ⟨h0,h1,h3.any_mu,h4⟩
 | mit m a b c=>exact h
theorem GS.ren {h:Hp} {r:List Nat} {blks:List G6} (hh:GS μ ro h w) (hb:R4 h.m r r blks) (hn:Gcx r=true) (hs:blks.all (Gj1 r.length)=true)
  (hμ:∀ i,i<r.length→μ' i=μ (rho r i)) (hμ0:∀ i,r.length≤i→μ' i=none):GS μ' ro (Um blks ⟨.e,0⟩) w:=by
 obtain ⟨hl,hget⟩:=V7 hb
 have hin:∀ i k,(Um blks ⟨.e,0⟩).m.get i=some k→i<r.length∧∃ b,blks[i]?=some b∧k=b.ob:=fun i k hk=>by
  rw [(Km blks ⟨.e,0⟩ i).2] at hk
  split at hk
  ·rename_i hc
   simp only [Nat.zero_add] at hc
   simp only [Nat.sub_zero,Option.map_eq_some_iff] at hk
   obtain ⟨b,h1,rfl⟩:=hk
   exact ⟨by rw [hl]; exact hc.2,b,h1,rfl⟩
  ·simp [Tr.get] at hk
 refine ⟨fun i k hk=>?_,fun i j k l b c hi hj hbi hbj e=>?_,fun i k b hi hbi=>?_,fun i b hi=>?_,hh.old,fun i hi=>?_⟩
 ·obtain ⟨h1,b,h2,rfl⟩:=hin i k hk
  cases hit:b.it with
  | some sp=>
   have e1:(MA r b).ob=sp.ob:=by simp [G6.ob,MA,hit]
   have e2:b.ob=sp.ob:=by simp [G6.ob,hit]
   have hg:=hget i b h2
   rw [e1] at hg
   obtain ⟨l,h3,h4⟩:=hh.obsT _ _ hg
   rw [e2]
   exact .inl ⟨l,(hμ i h1).trans h3,h4.it_mu⟩
  | none=>
  have e1:(MA r b).ob=.blk (MA r b):=by simp [G6.ob,MA,hit]
  have e2:b.ob=.blk b:=by simp [G6.ob,hit]
  have hg:=hget i b h2
  rw [e1] at hg
  rw [e2]
  rcases hh.obs _ _ hg with ⟨l,h3,h4⟩ | ⟨q1,q2,q3⟩
  rotate_left
  ·refine .inr ⟨(hμ i h1).trans q1,⟨q2.1,?_⟩,by rw [(Km blks ⟨.e,0⟩ 0).1]; simp only [Nat.zero_add]; omega⟩
   have:=q2.2
   simp only [MA] at this
   split at this
   ·exact this
   ·exact List.map_eq_nil_iff.1 this
  refine .inl ⟨l,(hμ i h1).trans h3,?_⟩
  obtain ⟨cs,fr,g1,g0,g2,g3,g4,g5⟩:=h4.get
  have hsb:Gj1 r.length b=true:=by rw [List.all_eq_true] at hs; exact hs b (List.mem_of_getElem? h2)
  cases hp:b.pl with
  | true=>
   have hc:(MA r b).c=b.c:=by simp [MA,hp]
   rw [hc] at g2 g3 g5
   refine ⟨⟨cs,fr,g1,g0,g2,g3,g4,fun j hj=>?_⟩⟩
   have:=g5 j hj
   simp only [MA,hp,Bool.not_true] at this ⊢
   exact this.any_mu
  | false=>
   have hc:(MA r b).c=b.c.map (Go.Proofs.YtnlaiahcemckkaaGreatDoor.Av.ren r 6):=by simp [MA,hp]
   rw [hc] at g2 g3 g5
   simp only [List.length_map] at g2 g3 g5
   refine ⟨⟨cs,fr,g1,g0,g2,g3,g4,fun j hj=>?_⟩⟩
   have:=g5 j hj
   rw [Ql hj] at this
   simp only [MA,hp,Bool.not_false] at this ⊢
   simp only [Gj1,hp,Bool.false_or] at hsb
   exact RY hμ 6 (JY hsb hj) this
 ·obtain ⟨h1,x,h2,rfl⟩:=hin i k hi
  obtain ⟨h3,y,h4,rfl⟩:=hin j l hj
  rw [hμ i h1] at hbi
  rw [hμ j h3] at hbj
  exact GmR hn i j h1 h3 (hh.inj _ _ _ _ b c (hget i x h2) (hget j y h4) hbi hbj e)
 ·obtain ⟨h1,x,h2,rfl⟩:=hin i k hi
  rw [hμ i h1] at hbi
  exact hh.own _ _ b (hget i x h2) hbi
 ·by_cases hc:i<r.length
  ·rw [hμ i hc] at hi; exact hh.lt _ b hi
  ·rw [hμ0 i (by omega)] at hi; cases hi
 ·rw [(Km blks ⟨.e,0⟩ i).1] at hi
  simp only [Nat.zero_add] at hi
  exact hμ0 i (by omega)
def Y9 (r:List Nat) (μ:Nat→Option HI) (i:Nat):Option HI:=if i<r.length then μ (rho r i) else none
/-! ### states in their plain form -/
def Gcz:List (Nat×AV)→Tr AV→Tr AV
 | [],t=>t
 | (k,v)::l,t=>(Gcz l t).put k (some v)
def S (nt:Nat) (tms:List (Nat×AV)) (blks:List G6):St:=⟨Gcz tms .e,nt,Um blks ⟨.e,0⟩,[]⟩
def GlA (t:Tr AV) (r:List Nat):List (Nat×AV)→Prop
 | []=>True
 | (k,v)::l=>t.get k=some (ren r 4 v)∧GlA t r l
theorem Glg {t:Tr AV} {r:List Nat}:∀ {l:List (Nat×AV)} {k:Nat} {v:AV},GlA t r l→(Gcz l .e).get k=some v→t.get k=some (ren r 4 v)∧∃ x ∈ l,x.2=v
 | [],k,v,_,h=>by simp [Gcz,Tr.get] at h
 | (k0,v0)::l,k,v,⟨h1,h2⟩,h=>by
  simp only [Gcz,Tr.get_put] at h
  split at h
  ·rename_i e
   simp only [sJ] at h
   subst h; subst e
   exact ⟨h1,_,List.mem_cons_self ..,rfl⟩
  ·obtain ⟨h3,x,h4,h5⟩:=Glg h2 h
   exact ⟨h3,x,List.mem_cons_of_mem _ h4,h5⟩
theorem R7.of_renM {s:St} {nt:Nat} {tms:List (Nat×AV)} {blks:List G6} (ρ:List Nat) (hnt:s.nt=nt) (hdf:s.df=[]) (ht:GlA s.tm ρ tms) (hb:R4 s.hp.m ρ ρ blks)
  (hc:(Gcx ρ&&blks.all (Gj1 ρ.length)&&tms.all fun x=>Gir ρ.length 4 x.2)=true) (m:Nat) (hm:∀ i,i<m→i<ρ.length∧rho ρ i=i):R7 m s (S nt tms blks):=by
 intro G μ ro w a hst
 simp only [Bool.and_eq_true] at hc
 refine ⟨Y9 ρ μ,ro,fun i hi=>by unfold Y9; rw [if_pos (hm i hi).1,(hm i hi).2],fun i l hi=>?_,fun _ h=>h,fun _ h=>.inl h,⟨fun t v hv=>?_,hst.nt.trans hnt,hst.hp.ren hb hc.1.1 hc.1.2 (fun i hi=>if_pos hi) (fun i hi=>if_neg (by omega)),hst.gl.any,?_⟩⟩
 ·unfold Y9 at hi
  split at hi
  ·exact ⟨_,l,hi,rfl⟩
  ·cases hi
 ·obtain ⟨h1,x,h2,rfl⟩:=Glg ht hv
  have h3:=hc.2
  rw [List.all_eq_true] at h3
  exact RY (fun i hi=>if_pos hi) 4 (h3 x h2) (hst.tm t _ h1)
 ·have:=hst.df
  rw [hdf] at this
  cases hq:a.defers with
  | nil=>trivial
  | cons x y=>rw [hq] at this; exact this.elim
theorem R7.of_ren {s:St} {nt:Nat} {tms:List (Nat×AV)} {blks:List G6} (ρ:List Nat) (hnt:s.nt=nt) (hdf:s.df=[]) (ht:GlA s.tm ρ tms) (hb:R4 s.hp.m ρ ρ blks)
  (hc:(Gcx ρ&&blks.all (Gj1 ρ.length)&&tms.all fun x=>Gir ρ.length 4 x.2)=true):R7 0 s (S nt tms blks):=R7.of_renM ρ hnt hdf ht hb hc 0 (fun i hi=>absurd hi (Nat.not_lt_zero i))
def idM (ρ:List Nat) (m:Nat):Bool:=(List.range m).all fun i=>Nat.blt i ρ.length&&Nat.beq (rho ρ i) i
theorem GmM {ρ:List Nat} {m:Nat} (h:idM ρ m=true):∀ i,i<m→i<ρ.length∧rho ρ i=i:=fun i hi=>by
 unfold idM at h
 rw [List.all_eq_true] at h
 have:=h i (List.mem_range.2 hi)
 simp only [Bool.and_eq_true] at this
 exact ⟨nB this.1,Nat.eq_of_beq_eq_true this.2⟩
def okS (ρ:List Nat) (tms:List (Nat×AV)) (blks:List G6):Bool:=Gcx ρ&&blks.all (Gj1 ρ.length)&&tms.all fun x=>Gir ρ.length 4 x.2
def okR (ρ:List Nat) (r:AV) (blks:List G6):Bool:=Gcx ρ&&blks.all (Gj1 ρ.length)&&Gir ρ.length 4 r
def GvM (t:Tr AV) (r:List Nat):List (Nat×AV)→W Unit
 | []=>W.pure ()
 | (k,v)::l=>match t.get k with | some v'=>(W.owe (v'=ren r 4 v)).bind fun _=>GvM t r l | none=>W.fail
theorem Gql {t:Tr AV} {r:List Nat}:∀ {l:List (Nat×AV)},(GvM t r l).sat fun _=>GlA t r l
 | []=>W.sat_pure trivial
 | (k,v)::l=>by
  unfold GvM
  split
  ·rename_i v' hv
   refine W.sat_bind W.sat_owe fun _ h1=>W.sat_mono Gql fun _ h2=>⟨?_,h2⟩
   rw [hv,h1]
  ·exact W.sat_fail
def Gpb (m:Tr Ob) (r:List Nat):List Nat→List G6→W Unit
 | [],[]=>W.pure ()
 | i::l,b::bs=>match m.get i,b.it with | some (.blk b'),none=>(W.owe (b'=MA r b)).bind fun _=>Gpb m r l bs | some (.iter s p),some (.str s' p')=>(W.owe (s=s'∧p=p')).bind fun _=>Gpb m r l bs | some (.map kd es),some (.map kd' es')=>(W.owe (kd=kd'∧es=es')).bind fun _=>Gpb m r l bs | some (.rm m1 kd es ms cl),some (.rm m1' kd' es' ms' cl')=>(W.owe (Ob.rm m1 kd es ms cl=.rm m1' kd' es' ms' cl')).bind fun _=>Gpb m r l bs | some (.mit m1 a1 b1 c1),some (.mit m1' a1' b1' c1')=>(W.owe (Ob.mit m1 a1 b1 c1=.mit m1' a1' b1' c1')).bind fun _=>Gpb m r l bs | _,_=>W.fail
 | _,_=>W.fail
theorem ZK {m:Tr Ob} {r:List Nat}:∀ {l:List Nat} {bs:List G6},(Gpb m r l bs).sat fun _=>R4 m r l bs
 | [],[]=>W.sat_pure trivial
 | i::l,b::bs=>by
  unfold Gpb
  split
  ·rename_i b' hm hit
   refine W.sat_bind W.sat_owe fun _ h1=>W.sat_mono ZK fun _ h2=>⟨?_,h2⟩
   have e1:(MA r b).ob=.blk (MA r b):=by simp [G6.ob,MA,hit]
   rw [e1,hm,h1]
  ·rename_i s p s' p' hm hit
   refine W.sat_bind W.sat_owe fun _ h1=>W.sat_mono ZK fun _ h2=>⟨?_,h2⟩
   have e1:(MA r b).ob=.iter s' p':=by simp [G6.ob,MA,hit,It.ob]
   rw [e1,hm,h1.1,h1.2]
  ·rename_i kd es kd' es' hm hit
   refine W.sat_bind W.sat_owe fun _ h1=>W.sat_mono ZK fun _ h2=>⟨?_,h2⟩
   have e1:(MA r b).ob=.map kd' es':=by simp [G6.ob,MA,hit,It.ob]
   rw [e1,hm,h1.1,h1.2]
  ·rename_i m1 kd es ms cl m1' kd' es' ms' cl' hm hit
   refine W.sat_bind W.sat_owe fun _ h1=>W.sat_mono ZK fun _ h2=>⟨?_,h2⟩
   have e1:(MA r b).ob=.rm m1' kd' es' ms' cl':=by simp [G6.ob,MA,hit,It.ob]
   rw [e1,hm,h1]
  ·rename_i m1 a1 b1 c1 m1' a1' b1' c1' hm hit
   refine W.sat_bind W.sat_owe fun _ h1=>W.sat_mono ZK fun _ h2=>⟨?_,h2⟩
   have e1:(MA r b).ob=.mit m1' a1' b1' c1':=by simp [G6.ob,MA,hit,It.ob]
   rw [e1,hm,h1]
  ·exact W.sat_fail
 | [],_::_=>W.sat_fail
 | _::_,[]=>W.sat_fail
def GwY (n:Nat) (s:St) (ρ:List Nat) (tms:List (Nat×AV)) (blks:List G6):W Unit:=
 match n,s.df,okS ρ tms blks with
 | 0,[],true=>(GvM s.tm ρ tms).bind fun _=>Gpb s.hp.m ρ ρ blks
 | _,_,_=>W.fail
theorem GuJ {n:Nat} {s:St} {ρ:List Nat} {tms:List (Nat×AV)} {blks:List G6}:(GwY n s ρ tms blks).sat fun _=>R7 n s (S s.nt tms blks):=by
 unfold GwY
 split
 ·rename_i hd hc
  exact W.sat_bind Gql fun _ h1=>W.sat_mono ZK fun _ h2=>R7.of_ren ρ rfl hd h1 h2 hc
 ·exact W.sat_fail
end
noncomputable section
open Go.RowKit
variable {P:Program} {G:Nat→AV} {μ μ':Nat→Option HI} {ro ro':Nat→Prop} {w w':World}
def GfE (s:St):Pl→Option AV
 | .t k=>s.tm.get k
 | .c id off=>match s.hp.m.get id with | some (.blk k)=>(match k.pl with | true=>none | false=>k.c[off]?) | _=>none
def GcV (s:St) (v:AV):Pl→St
 | .t k=>{ s with tm:=s.tm.put k (some v) }
 | .c id off=>match s.hp.m.get id with | some (.blk k)=>{ s with hp:=s.hp.set id (.blk { k with c:=k.c.set off v }) } | _=>s
theorem Uh {s:St} {a:Act} {p:Pl} {v v':AV} (h:G9 G μ ro w s a) (hg:GfE s p=some v) (hv:∀ x,GX μ ro w true v x→GX μ ro w true v' x):G9 G μ ro w (GcV s v' p) a:=by
 cases p with
 | t k=>
  refine ⟨fun t u ht=>?_,h.nt,h.hp,h.gl,h.df⟩
  simp only [GcV,Tr.get_put] at ht
  split at ht
  ·rename_i e
   simp only [sJ] at ht
   subst ht; subst e
   exact hv _ (h.tm _ _ hg)
  ·exact h.tm t u ht
 | c id off=>
  simp only [GfE] at hg
  simp only [GcV]
  split at hg
  ·rename_i k hk
   split at hg
   ·cases hg
   ·rename_i hpl
    refine ⟨h.tm,h.nt,?_,h.gl,h.df⟩
    have hoff:=(List.getElem?_eq_some_iff.1 hg).1
    refine h.hp.weak rfl fun i k' hi=>?_
    simp only [Hp.set,Tr.get_put] at hi
    by_cases e:i=id
    ·subst e
     simp only [if_true,sJ] at hi
     subst hi
     refine ⟨_,hk,fun b hb hr=>?_,fun ha=>?_⟩
     ·obtain ⟨cs,fr,g1,g0,g2,g3,g4,g5⟩:=Mu.get hr
      refine ⟨⟨cs,fr,g1,g0,by simpa using g2,fun he=>by simpa using g3 he,g4,fun j hj=>?_⟩⟩
      simp only [List.length_set] at hj
      have:=g5 j hj
      simp only [hpl,Bool.not_false] at this ⊢
      by_cases e:off=j
      ·subst e
       have e2:(k.c.set off v').getD off .any=v':=by simp [List.getD,hoff]
       rw [e2]
       refine hv _ ?_
       have e3:k.c.getD off .any=v:=by simp [List.getD,hg]
       rwa [e3] at this
      ·have e2:(k.c.set off v').getD j .any=k.c.getD j .any:=by simp [List.getD,List.getElem?_set_ne e]
       rw [e2]; exact this
     ·rw [ha.2] at hg; simp at hg
    ·rw [if_neg e] at hi
     exact ⟨_,hi,fun _ _ h=>h,fun h=>h⟩
  ·cases hg
theorem G9.sub_del {s:St} {a:Act} (h:G9 G μ ro w s a) (id:Nat) (k:Ob) (hk:s.hp.m.get id=some k):
  G9 G μ (fun b=>ro b∨∃ l,μ id=some l∧l.1=b) w { s with hp:=s.hp.del id } a:=by
 have up:∀ b,ro b→ro b∨∃ l,μ id=some l∧l.1=b:=fun _ h=>.inl h
 have hget:∀ {i k'},(s.hp.del id).m.get i=some k'→i≠id∧s.hp.m.get i=some k':=fun {i k'} hi=>by
  simp only [Hp.del,Tr.get_put] at hi
  split at hi
  ·cases hi
  ·rename_i e; exact ⟨e,hi⟩
 refine ⟨fun t v ht=>(h.tm t v ht).mono (fun _ _ h=>h) up (fun _ _=>rfl),h.nt,?_,h.gl.mono (fun _ _ h=>h) up (fun _ _=>rfl),h.df.mono (fun _ _ h=>h) up (fun _ _=>rfl)⟩
 refine ⟨fun i k' hi=>?_,fun i j k1 k2 b c hi hj=>h.hp.inj i j k1 k2 b c (hget hi).2 (hget hj).2,fun i k' b hi hb hr=>?_,h.hp.lt,fun b hb=>?_,h.hp.nx⟩
 ·exact (h.hp.obs i k' (hget hi).2).imp_left fun ⟨b,h1,h2⟩=>⟨b,h1,h2.mono (fun _ _ h=>h) up (fun _ _=>rfl) rfl⟩
 ·rcases hr with hr | ⟨l,hl,e⟩
  ·exact h.hp.own i k' b (hget hi).2 hb hr
  ·exact (hget hi).1 (h.hp.inj i id k' k b l (hget hi).2 hk hb hl e.symm)
 ·rcases hb with hb | ⟨l,hl,e⟩
  ·exact h.hp.old b hb
  ·exact e ▸ h.hp.lt id l hl
def GpA (s:St) (id:Nat) (k:G6):St:={ s with hp:=s.hp.set id (.blk { k with ext:=true,o:=true }) }
theorem GsT {s:St} {a:Act} {id:Nat} {k:G6} (h:G9 G μ ro w s a) (hk:s.hp.m.get id=some (.blk k)):G9 G μ ro w (GpA s id k) a:=by
 refine ⟨h.tm,h.nt,h.hp.weak rfl fun i k' hi=>?_,h.gl,h.df⟩
 simp only [GpA,Hp.set,Tr.get_put] at hi
 by_cases e:i=id
 ·subst e
  simp only [if_true,sJ] at hi
  subst hi
  refine ⟨_,hk,fun b hb hr=>?_,fun ha=>⟨rfl,ha.2⟩⟩
  obtain ⟨cs,fr,g1,g0,g2,g3,g4,g5⟩:=Mu.get hr
  exact ⟨⟨cs,fr,g1,g0,g2,(fun he=>by cases he),g4,g5⟩⟩
 ·rw [if_neg e] at hi
  exact ⟨_,hi,fun _ _ h=>h,fun h=>h⟩
def GsD (s:St) (id:Nat) (k:G6):St:={ s with hp:=s.hp.set id (.blk { k with pl:=true }) }
theorem GsI {s:St} {a:Act} {id:Nat} {k:G6} (h:G9 G μ ro w s a) (hk:s.hp.m.get id=some (.blk k)) (hp:k.c.all AV.pl=true):G9 G μ ro w (GsD s id k) a:=by
 refine ⟨h.tm,h.nt,h.hp.weak rfl fun i k' hi=>?_,h.gl,h.df⟩
 simp only [GsD,Hp.set,Tr.get_put] at hi
 by_cases e:i=id
 ·subst e
  simp only [if_true,sJ] at hi
  subst hi
  refine ⟨_,hk,fun b hb hr=>?_,fun ha=>ha⟩
  obtain ⟨cs,fr,g1,g0,g2,g3,g4,g5⟩:=Mu.get hr
  exact ⟨⟨cs,fr,g1,g0,g2,g3,g4,fun i hi=>(g5 i hi).pl (JY (q:=AV.pl) hp hi)⟩⟩
 ·rw [if_neg e] at hi
  exact ⟨_,hi,fun _ _ h=>h,fun h=>h⟩
def GsM (s:St) (id n:Nat) (k:G6):St:={ s with hp:=s.hp.set id (.blk { k with c:=k.c.take n }) }
theorem Grt {s:St} {a:Act} {id n:Nat} {k:G6} (h:G9 G μ ro w s a) (hk:s.hp.m.get id=some (.blk k)) (hx:k.ext=true):G9 G μ ro w (GsM s id n k) a:=by
 refine ⟨h.tm,h.nt,h.hp.weak rfl fun i k' hi=>?_,h.gl,h.df⟩
 simp only [GsM,Hp.set,Tr.get_put] at hi
 by_cases e:i=id
 ·subst e
  simp only [if_true,sJ] at hi
  subst hi
  refine ⟨_,hk,fun b hb hr=>?_,fun ha=>⟨ha.1,by simp [ha.2]⟩⟩
  obtain ⟨cs,fr,g1,g0,g2,g3,g4,g5⟩:=Mu.get hr
  refine ⟨⟨cs,fr,g1,g0,by simp only [List.length_take]; omega,(fun he=>by simp only [hx] at he; cases he),g4,fun i hi=>?_⟩⟩
  simp only [List.length_take] at hi
  have e2:(k.c.take n).getD i .any=k.c.getD i .any:=by simp [List.getD,List.getElem?_take,show i<n by omega]
  simp only [e2]
  exact g5 i (by omega)
 ·rw [if_neg e] at hi
  exact ⟨_,hi,fun _ _ h=>h,fun h=>h⟩
def Gr2 (s:St) (id:Nat) (k:G6):St:={ s with hp:=s.hp.set id (.blk { k with pl:=false }) }
theorem Gsu {s:St} {a:Act} {id:Nat} {k:G6} (h:G9 G μ ro w s a) (hk:s.hp.m.get id=some (.blk k)):G9 G μ ro w (Gr2 s id k) a:=by
 refine ⟨h.tm,h.nt,h.hp.weak rfl fun i k' hi=>?_,h.gl,h.df⟩
 simp only [Gr2,Hp.set,Tr.get_put] at hi
 by_cases e:i=id
 ·subst e
  simp only [if_true,sJ] at hi
  subst hi
  refine ⟨_,hk,fun b hb hr=>?_,fun ha=>ha⟩
  obtain ⟨cs,fr,g1,g0,g2,g3,g4,g5⟩:=Mu.get hr
  exact ⟨⟨cs,fr,g1,g0,g2,g3,g4,fun i hi=>(g5 i hi).any_or⟩⟩
 ·rw [if_neg e] at hi
  exact ⟨_,hi,fun _ _ h=>h,fun h=>h⟩
def Gt0 (id:Nat) (k:G6) (c:List AV) (n':Nat):List Pl→St→W St
 | [],s=>W.pure s
 | p::ps,s=>
  match GfE s p with
  | some (.sl id' off len cap _ z)=>(W.owe (id'=id∧sub k.c off (mu len z)=c∧n'=len∧off+mu len z≤k.c.length∧len≤cap)).bind fun _=>Gt0 id k c n' ps (GcV s (.lst c n') p)
  | some (.vec id' n z)=>(W.owe (id'=id∧k.c=c∧n'=n∧k.c.length=mu n z)).bind fun _=>Gt0 id k c n' ps (GcV s (.lst c n') p)
  | _=>W.fail
def aTf (s:St):Tf→W St
 | .vec p z e=>
  match GfE s p with
  | some .nils=>W.pure { GcV s (.vec s.hp.nx 0 z) p with hp:=(GcV s (.vec s.hp.nx 0 z) p).hp.new (.blk ⟨[],e,true,0,true,true,none⟩) }
  | _=>W.fail
 | .wid p=>
  match GfE s p with
  | some (.sl id 0 len cap _ z)=>
   match s.hp.m.get id with
   | some (.blk k)=>
    match GfE (GpA s id k) p with
    | some (.sl id' 0 len' cap' _ z')=>(W.owe (len'≤cap')).bind fun _=>W.pure (GcV (GpA s id k) (.vec id' len' z') p)
    | _=>W.fail
   | _=>W.fail
  | _=>W.fail
 | .nar p=>
  match GfE s p with
  | some (.vec id n z)=>(W.owe (0<n)).bind fun _=>W.pure (GcV s (.sl id 0 n n false z) p)
  | _=>W.fail
 | .frz ps c n'=>
  match (match ps with | p::_=>GfE s p | []=>none) with
  | some (.sl id _ _ _ _ _) | some (.vec id _ _)=>
   match s.hp.m.get id with
   | some (.blk k)=>match k.pl with | true=>Gt0 id k c n' ps { s with hp:=s.hp.del id } | false=>W.fail
   | _=>W.fail
  | _=>W.fail
 | .pln id=>
  match s.hp.m.get id with
  | some (.blk k)=>(W.owe (k.c.all AV.pl=true)).bind fun _=>W.pure (GsD s id k)
  | _=>W.fail
 | .eqt p v=>
  match GfE s p with
  | some v'=>(W.owe (v'=v)).bind fun _=>W.pure (GcV s v p)
  | _=>W.fail
 | .eqc id c=>
  match s.hp.m.get id with
  | some (.blk k)=>(W.owe (k.c=c)).bind fun _=>W.pure { s with hp:=s.hp.set id (.blk { k with c:=c }) }
  | _=>W.fail
 | .nl p=>
  match GfE s p with
  | some .nils=>W.pure (GcV s (.lst [] 0) p)
  | _=>W.fail
 | .fgt p=>
  match GfE s p with
  | some _=>W.pure (GcV s .any p)
  | _=>W.fail
 | .shr id n=>
  match s.hp.m.get id with
  | some (.blk k)=>match k.ext with | true=>W.pure (GsM s id n k) | false=>W.fail
  | _=>W.fail
 | .unp id=>
  match s.hp.m.get id with
  | some (.blk k)=>W.pure (Gr2 s id k)
  | _=>W.fail
 | .mp id es'=>
  match s.hp.m.get id with
  | some (.map kd es)=>(W.owe (es.Perm es')).bind fun _=>W.pure { s with hp:=s.hp.set id (.map kd es') }
  | some (.rm _ kd es _ _)=>(W.owe (es.Perm es')).bind fun _=>W.pure { s with hp:=s.hp.set id (.map kd es') }
  | _=>W.fail
theorem K5.perm {kd:KK} {es es':List (AV×AV)} (hp:es.Perm es'):∀ {p:List MapEntry},K5 kd μ ro w es p→∃ p',p.Perm p'∧K5 kd μ ro w es' p':=by
 induction hp with
 | nil=>exact fun h=>⟨_,.refl _,h⟩
 | cons x _ ih=>
  intro p h
  cases h with
  | cons hk hv he=>
   obtain ⟨p',h1,h2⟩:=ih he
   exact ⟨_,h1.cons _,.cons hk hv h2⟩
 | swap x y l=>
  intro p h
  cases h with
  | cons hk hv he=>
   cases he with
   | cons hk2 hv2 he2=>exact ⟨_,.swap _ _ _,.cons hk2 hv2 (.cons hk hv he2)⟩
 | trans _ _ ih1 ih2=>
  intro p h
  obtain ⟨p1,h1,h2⟩:=ih1 h
  obtain ⟨p2,h3,h4⟩:=ih2 h2
  exact ⟨p2,h1.trans h3,h4⟩
theorem K5.permR {kd:KK} {p p':List MapEntry} (hp:p.Perm p'):∀ {es:List (AV×AV)},K5 kd μ ro w es p→∃ es',es.Perm es'∧K5 kd μ ro w es' p':=by
 induction hp with
 | nil=>exact fun h=>⟨_,.refl _,h⟩
 | cons x _ ih=>
  intro es h
  cases h with
  | cons hk hv he=>
   obtain ⟨es',h1,h2⟩:=ih he
   exact ⟨_,h1.cons _,.cons hk hv h2⟩
 | swap x y l=>
  intro es h
  cases h with
  | cons hk hv he=>
   cases he with
   | cons hk2 hv2 he2=>exact ⟨_,.swap _ _ _,.cons hk2 hv2 (.cons hk hv he2)⟩
 | trans _ _ ih1 ih2=>
  intro es h
  obtain ⟨p1,h1,h2⟩:=ih1 h
  obtain ⟨p2,h3,h4⟩:=ih2 h2
  exact ⟨p2,h1.trans h3,h4⟩
theorem Z0.perm {b:HI} {kd:KK} {es es':List (AV×AV)} (h:Z0 μ ro w b kd es) (hp:es.Perm es'):Z0 μ ro w b kd es':=by
 obtain ⟨ms,cl,p,h1,h2,h3,h4,h5,h6⟩:=h
 obtain ⟨p',q1,q2⟩:=h3.perm hp
 exact ⟨ms,cl,p',h1,q1.symm.trans h2,q2,h4,h5,(hp.map _).nodup_iff.1 h6⟩
theorem Gns.hide {b:HI} {m cl:Nat} {kd:KK} {es:List (AV×AV)} {ms:List MapEntry} (h:Gns μ ro w b m kd es ms cl):Z0 μ ro w b kd es:=by
 obtain ⟨h0,h1,h2,h3,h4,h5⟩:=h
 exact ⟨ms.toArray,cl,ms,h1,.refl _,h2,h3,h4,h5⟩
theorem Z0.show {b:HI} {kd:KK} {es:List (AV×AV)} (h:Z0 μ ro w b kd es):∃ m es' ms cl,es.Perm es'∧Gns μ ro w b m kd es' ms cl:=by
 obtain ⟨ms,cl,p,h1,h2,h3,h4,h5,h6⟩:=h
 obtain ⟨es',q1,q2⟩:=h3.permR h2
 exact ⟨b.1,es',ms.toList,cl,q1,rfl,h1,q2,h4,h5,(q1.map _).nodup_iff.1 h6⟩
theorem R7.of_rel {n:Nat} {s s':St} (h:∀ (G:Nat→AV) μ ro w a,G9 G μ ro w s a→G9 G μ ro w s' a):R7 n s s':=fun G μ ro w a hs=>
 ⟨μ,ro,.refl _ _,fun i l h=>⟨i,l,h,rfl⟩,fun _ h=>h,fun _ h=>.inl h,h G μ ro w a hs⟩
theorem Gta {s:St} {a:Act} {id:Nat} {k:G6} {c:List AV} {v:AV} {x:Value} {n':Nat} (h:G9 G μ ro w s a) (hk:s.hp.m.get id=some (.blk k)) (hpl:k.pl=true)
  (hv:(∃ off len cap ex z,v=.sl id off len cap ex z∧sub k.c off (mu len z)=c∧n'=len∧off+mu len z≤k.c.length∧len≤cap)∨(∃ n z,v=.vec id n z∧k.c=c∧n'=n∧k.c.length=mu n z))
  (hx:GX μ (fun b=>ro b∨∃ l,μ id=some l∧l.1=b) w true v x):GX μ (fun b=>ro b∨∃ l,μ id=some l∧l.1=b) w true (.lst c n') x:=by
 rcases hv with ⟨off,len,cap,ex,z,rfl,h1,h2,h3,h4⟩ | ⟨n,z,rfl,h1,h2,h3⟩
 ·cases hx with
  | sl hb hc1 hc2 hc3=>
   rename_i cap' l
   have hob:=h.hp.obsM id _ _ hk hb
   obtain ⟨cs,fr,g1,g0,g2,g3,g4,g5⟩:=Mu.get hob
   subst h2
   rw [hpl] at g5
   rw [Rm] at h1 h3
   subst h1
   refine .lst (fun i=>cs.getD (off+i) undef) (fun _=>⟨.inr ⟨l,hb,rfl⟩,rfl⟩) (fun i hi=>?_) (fun i hi=>?_) (Nat.le_trans h4 hc1)
   ·have:=(Gam hi).2.1
    exact Zb (off:=off+i) g1 (by omega)
   ·obtain ⟨e1,e2,_⟩:=Gam hi
    rw [e1]
    exact (g5 _ e2).mono (fun _ _ h=>h) (fun _ h=>.inl h) (fun _ _=>rfl)
 ·subst h1; subst h2
  rw [Rm] at h3
  cases hx with
  | vecn=>
   have hc0:k.c=[]:=List.length_eq_zero_iff.1 (by simpa using h3)
   rw [hc0]
   exact .lstn
  | vec hb hc1 hc3=>
   rename_i cap' l
   have hob:=h.hp.obsM id _ _ hk hb
   obtain ⟨cs,fr,g1,g0,g2,g3,g4,g5⟩:=Mu.get hob
   rw [hpl] at g5
   refine .lst (fun i=>cs.getD i undef) (fun _=>⟨.inr ⟨l,hb,rfl⟩,rfl⟩) (fun i hi=>?_) (fun i hi=>?_) hc1
   ·rw [Nat.zero_add]; exact Zb g1 (by omega)
   ·exact (g5 i hi).mono (fun _ _ h=>h) (fun _ h=>.inl h) (fun _ _=>rfl)
theorem Gm3 {s:St} {id:Nat} {k:G6} {c:List AV} {n':Nat} (hk:s.hp.m.get id=some (.blk k)) (hpl:k.pl=true):∀ (ps:List Pl) (s1:St),(Gt0 id k c n' ps s1).sat fun s'=>
  ∀ (G:Nat→AV) μ ro w a,G9 G μ ro w s a→G9 G μ (fun b=>ro b∨∃ l,μ id=some l∧l.1=b) w s1 a→G9 G μ (fun b=>ro b∨∃ l,μ id=some l∧l.1=b) w s' a
 | [],s1=>W.sat_pure fun G μ ro w a _ h=>h
 | p::ps,s1=>by
  unfold Gt0
  split
  ·rename_i id' off len cap ex z hg
   refine W.sat_bind W.sat_owe fun _ ⟨h0,h1,h2,h3,h4⟩=>?_
   subst h0
   exact W.sat_mono (Gm3 hk hpl ps _) fun s' hs' G μ ro w a hs h=>hs' G μ ro w a hs (Uh h hg fun x hx=>Gta hs hk hpl (.inl ⟨_,_,_,_,_,rfl,h1,h2,h3,h4⟩) hx)
  ·rename_i id' n z hg
   refine W.sat_bind W.sat_owe fun _ ⟨h0,h1,h2,h3⟩=>?_
   subst h0
   exact W.sat_mono (Gm3 hk hpl ps _) fun s' hs' G μ ro w a hs h=>hs' G μ ro w a hs (Uh h hg fun x hx=>Gta hs hk hpl (.inr ⟨_,_,rfl,h1,h2,h3⟩) hx)
  ·exact W.sat_fail
theorem Gqc {n:Nat} {s:St} {f:Tf}:(aTf s f).sat fun s'=>R7 n s s':=by
 cases f with
 | vec p z e=>
  simp only [aTf]
  split
  ·rename_i hg
   refine W.sat_pure (R7.of_rel fun G μ ro w a hs=>?_)
   have h1:G9 G μ ro w (GcV s (.vec s.hp.nx 0 z) p) a:=Uh hs hg fun x hx=>by cases hx; exact .vecn
   exact ⟨h1.tm,h1.nt,h1.hp.newAbs _ ⟨rfl,rfl⟩,h1.gl,h1.df⟩
  ·exact W.sat_fail
 | wid p=>
  simp only [aTf]
  split
  ·split
   ·rename_i k hk
    split
    ·rename_i id' len' cap' ex' z' hg
     refine W.sat_bind W.sat_owe fun _ hle=>W.sat_pure (R7.of_rel fun G μ ro w a hs=>?_)
     refine Uh (GsT hs hk) hg fun x hx=>?_
     cases hx with
     | sl hb h1 h2 h3=>exact .vec hb (Nat.le_trans hle h1) (by omega)
    ·exact W.sat_fail
   ·exact W.sat_fail
  ·exact W.sat_fail
 | nar p=>
  simp only [aTf]
  split
  ·rename_i id n z hg
   refine W.sat_bind W.sat_owe fun _ hlt=>W.sat_pure (R7.of_rel fun G μ ro w a hs=>?_)
   refine Uh hs hg fun x hx=>?_
   cases hx with
   | vecn=>omega
   | vec hb h1 h3=>exact .sl hb h1 (fun h=>by cases h) (by omega)
  ·exact W.sat_fail
 | frz ps c n'=>
  have both:∀ id,(match s.hp.m.get id with
    | some (.blk k)=>match k.pl with | true=>Gt0 id k c n' ps { s with hp:=s.hp.del id } | false=>W.fail
    | _=>W.fail:W St).sat fun s'=>R7 n s s':=fun id=>by
   split
   ·rename_i k hk
    split
    ·rename_i hpl
     refine W.sat_mono (Gm3 hk hpl ps _) fun s' hs' G μ ro w a hs=>?_
     exact ⟨μ,fun b=>ro b∨∃ l,μ id=some l∧l.1=b,.refl _ _,fun i l h=>⟨i,l,h,rfl⟩,fun _ h=>.inl h,fun b hb=>hb.imp_right fun ⟨l,h1,h2⟩=>⟨id,l,h1,h2⟩,hs' G μ ro w a hs (hs.sub_del id _ hk)⟩
    ·exact W.sat_fail
   ·exact W.sat_fail
  simp only [aTf]
  split
  ·exact both _
  ·exact both _
  ·exact W.sat_fail
 | pln id=>
  simp only [aTf]
  split
  ·rename_i k hk
   exact W.sat_bind W.sat_owe fun _ hp=>W.sat_pure (R7.of_rel fun G μ ro w a hs=>GsI hs hk hp)
  ·exact W.sat_fail
 | eqt p v=>
  simp only [aTf]
  split
  ·rename_i v' hg
   exact W.sat_bind W.sat_owe fun _ he=>W.sat_pure (R7.of_rel fun G μ ro w a hs=>Uh hs hg fun x hx=>he ▸ hx)
  ·exact W.sat_fail
 | eqc id c=>
  simp only [aTf]
  split
  ·rename_i k hk
   refine W.sat_bind W.sat_owe fun _ he=>W.sat_pure (R7.of_rel fun G μ ro w a hs=>⟨hs.tm,hs.nt,hs.hp.weak rfl fun i k' hi=>?_,hs.gl,hs.df⟩)
   simp only [Hp.set,Tr.get_put] at hi
   subst he
   by_cases e:i=id
   ·subst e
    simp only [if_true,sJ] at hi
    subst hi
    exact ⟨_,hk,fun _ _ h=>h,fun h=>h⟩
   ·rw [if_neg e] at hi
    exact ⟨_,hi,fun _ _ h=>h,fun h=>h⟩
  ·exact W.sat_fail
 | nl p=>
  simp only [aTf]
  split
  ·rename_i hg
   exact W.sat_pure (R7.of_rel fun G μ ro w a hs=>Uh hs hg fun x hx=>by cases hx; exact .lstn)
  ·exact W.sat_fail
 | fgt p=>
  simp only [aTf]
  split
  ·rename_i hg
   exact W.sat_pure (R7.of_rel fun G μ ro w a hs=>Uh hs hg fun x hx=>.any)
  ·exact W.sat_fail
 | shr id k=>
  simp only [aTf]
  split
  ·rename_i b hb
   split
   ·rename_i hx
    exact W.sat_pure (R7.of_rel fun G μ ro w a hs=>Grt hs hb hx)
   ·exact W.sat_fail
  ·exact W.sat_fail
 | unp id=>
  simp only [aTf]
  split
  ·rename_i b hb
   exact W.sat_pure (R7.of_rel fun G μ ro w a hs=>Gsu hs hb)
  ·exact W.sat_fail
 | mp id es'=>
  simp only [aTf]
  split
  ·rename_i kd es hb
   refine W.sat_bind W.sat_owe fun _ hp=>W.sat_pure (R7.of_rel fun G μ ro w a hs=>?_)
   refine ⟨hs.tm,hs.nt,hs.hp.weak rfl fun i k' hi=>?_,hs.gl,hs.df⟩
   simp only [Hp.set,Tr.get_put] at hi
   by_cases e:i=id
   ·subst e
    simp only [if_true,sJ] at hi
    subst hi
    exact ⟨_,hb,fun b _ hr=>Z0.perm hr hp,fun ha=>ha.elim⟩
   ·rw [if_neg e] at hi
    exact ⟨_,hi,fun _ _ h=>h,fun h=>h⟩
  ·rename_i m kd es ms cl hb
   refine W.sat_bind W.sat_owe fun _ hp=>W.sat_pure (R7.of_rel fun G μ ro w a hs=>?_)
   refine ⟨hs.tm,hs.nt,hs.hp.weak rfl fun i k' hi=>?_,hs.gl,hs.df⟩
   simp only [Hp.set,Tr.get_put] at hi
   by_cases e:i=id
   ·subst e
    simp only [if_true,sJ] at hi
    subst hi
    exact ⟨_,hb,fun b _ hr=>(Gns.hide hr).perm hp,fun ha=>ha.elim⟩
   ·rw [if_neg e] at hi
    exact ⟨_,hi,fun _ _ h=>h,fun h=>h⟩
  ·exact W.sat_fail
/-! ### a cut that leaves the other blocks alone -/
def fN (r:List Nat) (m nx j:Nat):Nat:=match Nat.blt j m with | true=>rho r j | false=>nx+j
theorem Gs1 {r:List Nat} {m nx j:Nat} (h:j<m):fN r m nx j=rho r j:=by
 unfold fN
 have:Nat.blt j m=true:=by rw [Nat.blt_eq]; exact h
 rw [this]
theorem Gtm {r:List Nat} {m nx j:Nat} (h:m≤j):fN r m nx j=nx+j:=by
 unfold fN
 have:Nat.blt j m=false:=by
  cases hb:Nat.blt j m with
  | false=>rfl
  | true=>rw [Nat.blt_eq] at hb; omega
 rw [this]
def mpN (f:Nat→Nat):Nat→AV→AV
 | 0,v=>match v with | .ptr i o=>.ptr (f i) o | .sl i o l c e z=>.sl (f i) o l c e z | .vec i n z=>.vec (f i) n z | .mapr i=>.mapr (f i) | .yld i=>.yld (f i) | .stp i=>.stp (f i) | v=>v
 | d+1,v=>match v with | .ptr i o=>.ptr (f i) o | .sl i o l c e z=>.sl (f i) o l c e z | .vec i n z=>.vec (f i) n z | .mapr i=>.mapr (f i) | .yld i=>.yld (f i) | .stp i=>.stp (f i) | .agg c=>.agg (c.map (mpN f d)) | .tup c=>.tup (c.map (mpN f d)) | .fn g a c=>.fn g (a.map (mpN f d)) (c.map (mpN f d)) | .ifc t v=>.ifc t (mpN f d v) | v=>v
def Gmc:Nat→AV→Bool
 | 0,v=>match v with | .ptr _ _ | .sl .. | .vec .. | .mapr _ | .yld _ | .stp _=>true | v=>v.pl1
 | d+1,v=>match v with | .ptr _ _ | .sl .. | .vec .. | .mapr _ | .yld _ | .stp _=>true | .agg c=>c.all (Gmc d) | .tup c=>c.all (Gmc d) | .fn _ a c=>a.all (Gmc d)&&c.all (Gmc d) | .ifc _ v=>Gmc d v | v=>v.pl1
theorem Zo {f:Nat→Nat} (hμ:∀ i b,μ i=some b→μ' (f i)=some b):∀ (d:Nat) {o:Bool} {v:AV} {x:Value},Gmc d v=true→GX μ ro w o v x→GX μ' ro w o (mpN f d v) x
 | 0,o,v,x,hs,h=>by
  cases v <;> simp only [Gmc] at hs <;> simp only [mpN]
  case ptr i f=>cases h with | ptr h=>exact .ptr (hμ _ _ h)
  case mapr i=>cases h with | mapr h=>exact .mapr (hμ _ _ h)
  case yld i=>cases h with | yld h=>exact .yld (hμ _ _ h)
  case stp i=>cases h with | stp h=>exact .stp (hμ _ _ h)
  case sl=>cases h with | sl h h1 h2 h3=>exact .sl (hμ _ _ h) h1 h2 h3
  case vec=>cases h with
   | vec h h1 h3=>exact .vec (hμ _ _ h) h1 h3
   | vecn=>exact .vecn
  all_goals exact Gpq h hs
 | d+1,o,v,x,hs,h=>by
  cases v <;> simp only [Gmc] at hs <;> simp only [mpN]
  case ptr i f=>cases h with | ptr h=>exact .ptr (hμ _ _ h)
  case mapr i=>cases h with | mapr h=>exact .mapr (hμ _ _ h)
  case yld i=>cases h with | yld h=>exact .yld (hμ _ _ h)
  case stp i=>cases h with | stp h=>exact .stp (hμ _ _ h)
  case sl=>cases h with | sl h h1 h2 h3=>exact .sl (hμ _ _ h) h1 h2 h3
  case vec=>cases h with
   | vec h h1 h3=>exact .vec (hμ _ _ h) h1 h3
   | vecn=>exact .vecn
  case agg c=>
   cases h with
   | agg hn hr=>
    refine .agg (by simpa using hn) fun i hi=>?_
    simp only [List.length_map] at hi
    rw [Ql hi]
    exact Zo hμ d (JY hs hi) (hr i hi)
  case tup c=>
   cases h with
   | tup hn hr=>
    refine .tup (by simpa using hn) fun i hi=>?_
    simp only [List.length_map] at hi
    rw [Ql hi]
    exact Zo hμ d (JY hs hi) (hr i hi)
  case fn f a c=>
   simp only [Bool.and_eq_true] at hs
   cases h with
   | fn hn hr hm hs'=>
    refine .fn (by simpa using hn) (fun i hi=>?_) (by simpa using hm) fun i hi=>?_
    ·simp only [List.length_map] at hi
     rw [Ql hi]
     exact Zo hμ d (JY hs.1 hi) (hr i hi)
    ·simp only [List.length_map] at hi
     rw [Ql hi]
     exact Zo hμ d (JY hs.2 hi) (hs' i hi)
  case ifc t v=>cases h with | ifc h=>exact .ifc (Zo hμ d hs h)
  all_goals exact Gpq h hs
def mpB (f:Nat→Nat) (b:G6):G6:={ b with c:=match b.pl with | true=>b.c | false=>b.c.map (mpN f 6) }
def Gux (b:G6):Bool:=b.pl||b.c.all (Gmc 6)
def Gln:List Nat→Tr Ob→Tr Ob
 | [],m=>m
 | i::l,m=>(Gln l m).put i none
theorem MB {m:Tr Ob} {j:Nat} {k:Ob}:∀ {l:List Nat},(Gln l m).get j=some k→j ∉ l∧m.get j=some k
 | [],h=>⟨by simp,h⟩
 | i::l,h=>by
  simp only [Gln,Tr.get_put] at h
  split at h
  ·cases h
  ·rename_i e
   obtain ⟨h1,h2⟩:=MB h
   exact ⟨by simp [e,h1],h2⟩
def GmE (f:Nat→Nat):List G6→Nat→Tr Ob→Tr Ob
 | [],_,t=>t
 | b::l,j,t=>(GmE f l (j+1) t).put (f j) (some (mpB f b).ob)
theorem Gk3 {f:Nat→Nat} {t:Tr Ob} {i:Nat} {k:Ob}:∀ {l:List G6} {j:Nat},(GmE f l j t).get i=some k→(∃ q b,l[q]?=some b∧i=f (j+q)∧k=(mpB f b).ob)∨t.get i=some k
 | [],j,h=>.inr h
 | b::l,j,h=>by
  simp only [GmE,Tr.get_put] at h
  split at h
  ·rename_i e
   simp only [sJ] at h
   exact .inl ⟨0,b,rfl,e,h.symm⟩
  ·rcases Gk3 h with ⟨q,b',h1,h2,h3⟩ | h1
   ·exact .inl ⟨q+1,b',by simpa using h1,by rw [h2]; congr 1; omega,h3⟩
   ·exact .inr h1
theorem Gnm {f:AV→AV}:∀ {l:List (Nat×AV)} {t:Nat} {v:AV},(Gcz (l.map fun x=>(x.1,f x.2)) .e).get t=some v→∃ v0,(Gcz l .e).get t=some v0∧v=f v0∧∃ x ∈ l,x.2=v0
 | [],t,v,h=>by simp [Gcz,Tr.get] at h
 | (q,u)::l,t,v,h=>by
  simp only [List.map_cons,Gcz,Tr.get_put] at h ⊢
  split at h
  ·rename_i e
   simp only [sJ] at h
   exact ⟨u,by rw [if_pos e],h.symm,_,List.mem_cons_self ..,rfl⟩
  ·rename_i e
   obtain ⟨v0,h1,h2,x,h3,h4⟩:=Gnm h
   exact ⟨v0,by rw [if_neg e]; exact h1,h2,x,List.mem_cons_of_mem _ h3,h4⟩
def Gqw (s:St) (m:Nat) (tms':List (Nat×AV)) (blks':List G6) (ρ:List Nat):St:=
 ⟨Gcz (tms'.map fun x=>(x.1,mpN (fN ρ m s.hp.nx) 4 x.2)) .e,s.nt,⟨GmE (fN ρ m s.hp.nx) blks' 0 (Gln ρ s.hp.m),s.hp.nx+blks'.length⟩,[]⟩
theorem GI.frame {n m:Nat} {c:Code} {s:St} {e:Hm} {tms tms':List (Nat×AV)} {blks blks':List G6} (ρ:List Nat) (h:GI P G m c (S s.nt tms blks) e (S s.nt tms' blks')) (hq:∀ v,e≠.panic v)
  (hn:n≤s.hp.nx) (hm:m≤ρ.length) (hdf:s.df=[]) (ht:GlA s.tm ρ tms) (hb:R4 s.hp.m ρ ρ blks)
  (hc:(Gcx ρ&&blks.all (Gj1 ρ.length)&&tms.all fun x=>Gir ρ.length 4 x.2)=true) (hc':(blks'.all Gux&&tms'.all fun x=>Gmc 4 x.2)=true):GI P G n c s e (Gqw s m tms' blks' ρ):=by
 intro μ ro a w hst
 have hst0:G9 G (Y9 ρ μ) ro w (S s.nt tms blks) a:=by
  simp only [Bool.and_eq_true] at hc
  refine ⟨fun t v hv=>?_,hst.nt,hst.hp.ren hb hc.1.1 hc.1.2 (fun i hi=>if_pos hi) (fun i hi=>if_neg (by omega)),hst.gl.any,?_⟩
  ·obtain ⟨h1,x,h2,rfl⟩:=Glg ht hv
   have h3:=hc.2
   rw [List.all_eq_true] at h3
   exact RY (fun i hi=>if_pos hi) 4 (h3 x h2) (hst.tm t _ h1)
  ·have:=hst.df
   rw [hdf] at this
   cases hq:a.defers with
   | nil=>trivial
   | cons x y=>rw [hq] at this; exact this.elim
 simp only [Bool.and_eq_true] at hc'
 have hmu:∀ i l,Y9 ρ μ i=some l→i<ρ.length∧μ (rho ρ i)=some l:=fun i l hi=>by
  unfold Y9 at hi
  split at hi
  ·exact ⟨by assumption,hi⟩
  ·cases hi
 have hin:∀ i,i<ρ.length→rho ρ i ∈ ρ:=fun i hi=>by
  unfold rho; rw [List.getD_eq_getElem?_getD,List.getElem?_eq_getElem hi]; exact List.getElem_mem hi
 have hbl:=(V7 hb).1
 have hbg:=(V7 hb).2
 have hent:∀ i,i<ρ.length→∃ k,s.hp.m.get (rho ρ i)=some k:=fun i hi=>⟨_,hbg i _ (List.getElem?_eq_getElem (hbl ▸ hi))⟩
 have hltnx:∀ {i k},s.hp.m.get i=some k→i<s.hp.nx:=fun {i k} hi=>by
  rcases Nat.lt_or_ge i s.hp.nx with h1 | h1
  ·exact h1
  ·rcases hst.hp.obs i k hi with ⟨b,hb,_⟩ | ⟨_,_,h3⟩
   ·rw [hst.hp.nx i h1] at hb; cases hb
   ·exact h3
 refine wp_mono (h (Y9 ρ μ) ro a w hst0) fun e' a1 w1 ⟨μ1,ro1,hup,hex,hs1⟩=>?_
 have hoth:∀ {i k b},(Gln ρ s.hp.m).get i=some k→μ i=some b→∀ j l,Y9 ρ μ j=some l→l.1≠b.1:=fun {i k b} hi hbi j l hj e=>by
  obtain ⟨h1,h2⟩:=MB hi
  obtain ⟨h3,h4⟩:=hmu j l hj
  obtain ⟨k',hk'⟩:=hent j h3
  have:=hst.hp.inj _ _ k' k l b hk' h2 h4 hbi e
  exact h1 (this ▸ hin j h3)
 have hsame:∀ {i k b},(Gln ρ s.hp.m).get i=some k→μ i=some b→w1.heap[b.1]?=w.heap[b.1]?:=fun {i k b} hi hbi=>hup.fr.rest b.1 (hst.hp.lt i b hbi) (hoth hi hbi)
 let μ2:Nat→Option HI:=fun i=>if i<s.hp.nx then μ i else μ1 (i - s.hp.nx)
 have hμ2:∀ i b,μ i=some b→μ2 i=some b:=fun i b hi=>by
  have:i<s.hp.nx:=by
   rcases Nat.lt_or_ge i s.hp.nx with h | h
   ·exact h
   ·rw [hst.hp.nx i h] at hi; cases hi
  simp only [μ2,if_pos this]; exact hi
 have hfN:∀ q,μ2 (fN ρ m s.hp.nx q)=μ1 q:=fun q=>by
  rcases Nat.lt_or_ge q m with h1 | h1
  ·rw [Gs1 h1]
   have h2:q<ρ.length:=by omega
   obtain ⟨k,hk⟩:=hent q h2
   simp only [μ2,if_pos (hltnx hk)]
   rw [hup.ag q h1]
   unfold Y9
   rw [if_pos h2]
  ·rw [Gtm h1]
   simp only [μ2]
   rw [if_neg (by omega),Nat.add_sub_cancel_left]
 have hμ1:∀ i b,μ1 i=some b→μ2 (fN ρ m s.hp.nx i)=some b:=fun i b hi=>(hfN i).trans hi
 have hget1:=fun i=>(Km blks' ⟨.e,0⟩ i)
 have hnx1:(S s.nt tms' blks').hp.nx=blks'.length:=by
  have:=(hget1 0).1
  simp only [Nat.zero_add] at this
  exact this
 have hcase:∀ i k,(GmE (fN ρ m s.hp.nx) blks' 0 (Gln ρ s.hp.m)).get i=some k→
   (i<s.hp.nx∧(Gln ρ s.hp.m).get i=some k)∨(∃ q b,i=fN ρ m s.hp.nx q∧q<blks'.length∧(S s.nt tms' blks').hp.m.get q=some b.ob∧k=(mpB (fN ρ m s.hp.nx) b).ob∧b ∈ blks'):=fun i k hi=>by
  rcases Gk3 hi with ⟨q,b,h1,h2,h3⟩ | h1
  ·rw [Nat.zero_add] at h2
   have hlt:=(List.getElem?_eq_some_iff.1 h1).1
   refine .inr ⟨q,b,h2,hlt,?_,h3,List.mem_of_getElem? h1⟩
   show (Um blks' ⟨.e,0⟩).m.get q=_
   rw [(hget1 q).2,if_pos (by simp only; omega)]
   simp only [Nat.sub_zero,h1,Option.map_some]
  ·exact .inl ⟨hltnx (MB h1).2,h1⟩
 have hfr:Fr μ ro w μ2 w1:=⟨hup.fr.os,hup.fr.tape,hup.fr.output,hup.fr.size,hup.fr.block,fun b hb hno=>hup.fr.rest b hb fun i l hi=>hno _ l (hmu i l hi).2,fun i l hi=>by
  simp only [μ2] at hi
  split at hi
  ·exact .inl ⟨i,l,hi,rfl⟩
  ·rcases hup.fr.new _ l hi with ⟨j,m,hj,hm⟩ | h
   ·exact .inl ⟨_,m,(hmu j m hj).2,hm⟩
   ·exact .inr h⟩
 refine ⟨μ2,ro1,⟨fun i hi=>by simp only [μ2]; rw [if_pos (by omega)],hup.up,fun b hb=>(hup.nw b hb).imp_right (Or.imp_right fun ⟨i,l,h1,h2⟩=>⟨_,l,(hmu i l h1).2,h2⟩),hfr⟩,?_,⟨fun t v hv=>?_,hs1.nt,?_,hs1.gl.any,?_⟩⟩
 rotate_right
 ·have:=hs1.df
  simp only [S] at this
  simp only [Gqw]
  cases hq:a1.defers with
  | nil=>trivial
  | cons x y=>rw [hq] at this; exact this.elim
 ·cases e with
  | panic v=>exact absurd rfl (hq v)
  | _=>cases e' <;> first | exact hex | exact hex.elim
 ·simp only [Gqw] at hv
  obtain ⟨v0,h1,rfl,x,h2,rfl⟩:=Gnm hv
  have h3:=hc'.2
  rw [List.all_eq_true] at h3
  exact Zo hμ1 4 (h3 x h2) (hs1.tm t _ h1)
 ·simp only [Gqw]
  refine ⟨fun i k hi=>?_,fun i j k l b c hi hj hbi hbj hbc=>?_,fun i k b hi hbi hr=>?_,fun i b hbi=>?_,hs1.hp.old,fun i hi=>?_⟩
  ·rcases hcase i k hi with ⟨h1,h2⟩ | ⟨q,b,rfl,hql,h2,rfl,h3⟩
   ·rcases hst.hp.obs i k (MB h2).2 with ⟨b,hb,hob⟩ | ⟨q1,q2,q3⟩
    ·exact .inl ⟨b,hμ2 _ _ hb,hob.mono hμ2 hup.up hup.fr.block (hsame h2 hb)⟩
    ·exact .inr ⟨by simp only [μ2,if_pos h1]; exact q1,q2,by simp only; omega⟩
   ·cases hit:b.it with
    | some sp=>
     have e1:(mpB (fN ρ m s.hp.nx) b).ob=sp.ob:=by simp [G6.ob,mpB,hit]
     have e2:b.ob=sp.ob:=by simp [G6.ob,hit]
     rw [e2] at h2
     obtain ⟨l,hl,hob⟩:=hs1.hp.obsT _ _ h2
     rw [e1]
     exact .inl ⟨l,hμ1 _ _ hl,hob.it_mu⟩
    | none=>
    have e1:(mpB (fN ρ m s.hp.nx) b).ob=.blk (mpB (fN ρ m s.hp.nx) b):=by simp [G6.ob,mpB,hit]
    have e2:b.ob=.blk b:=by simp [G6.ob,hit]
    rw [e2] at h2
    rw [e1]
    rcases hs1.hp.obs _ _ h2 with ⟨l,hl,hob⟩ | ⟨q1,q2,q3⟩
    ·refine .inl ⟨l,hμ1 _ _ hl,?_⟩
     obtain ⟨cs,fr,g1,g0,g2,g3,g4,g5⟩:=Mu.get hob
     have h4:=hc'.1
     rw [List.all_eq_true] at h4
     have h5:=h4 b h3
     cases hp:b.pl with
     | true=>
      have hcc:(mpB (fN ρ m s.hp.nx) b).c=b.c:=by simp [mpB,hp]
      refine ⟨⟨cs,fr,g1,g0,hcc ▸ g2,fun h=>by rw [hcc]; exact g3 h,g4,fun j hj=>?_⟩⟩
      rw [hcc] at hj ⊢
      have:=g5 j hj
      simp only [mpB,hp,Bool.not_true] at this ⊢
      exact this.any_mu
     | false=>
      have hcc:(mpB (fN ρ m s.hp.nx) b).c=b.c.map (mpN (fN ρ m s.hp.nx) 6):=by simp [mpB,hp]
      refine ⟨⟨cs,fr,g1,g0,by rw [hcc]; simpa using g2,fun h=>by rw [hcc]; simpa using g3 h,g4,fun j hj=>?_⟩⟩
      rw [hcc] at hj ⊢
      simp only [List.length_map] at hj
      rw [Ql hj]
      have:=g5 j hj
      simp only [mpB,hp,Bool.not_false] at this ⊢
      simp only [Gux,hp,Bool.false_or] at h5
      exact Zo hμ1 6 (JY h5 hj) this
    ·refine .inr ⟨(hfN q).trans q1,⟨q2.1,?_⟩,?_⟩
     ·have h6:=q2.2
      simp only [mpB]
      cases b.pl <;> simp [h6]
     ·rcases Nat.lt_or_ge q m with h1 | h1
      ·rw [Gs1 h1]
       obtain ⟨k,hk⟩:=hent q (by omega)
       have:=hltnx hk
       simp only; omega
      ·rw [Gtm h1]; simp only; omega
  ·rcases hcase i k hi with ⟨h1,h2⟩ | ⟨q,kb,rfl,_,h2,rfl,_⟩ <;> rcases hcase j l hj with ⟨h3,h4⟩ | ⟨q',lb,rfl,_,h4,rfl,_⟩
   ·simp only [μ2,if_pos h1] at hbi; simp only [μ2,if_pos h3] at hbj
    exact hst.hp.inj i j k l b c (MB h2).2 (MB h4).2 hbi hbj hbc
   ·simp only [μ2,if_pos h1] at hbi; rw [hfN] at hbj
    rcases hup.fr.new _ c hbj with ⟨q,m,hq,hm⟩ | h
    ·exact absurd (hm.trans hbc.symm) (hoth h2 hbi q m hq)
    ·have:=hst.hp.lt i b hbi; omega
   ·rw [hfN] at hbi; simp only [μ2,if_pos h3] at hbj
    rcases hup.fr.new _ b hbi with ⟨q,m,hq,hm⟩ | h
    ·exact absurd (hm.trans hbc) (hoth h4 hbj q m hq)
    ·have:=hst.hp.lt j c hbj; omega
   ·rw [hfN] at hbi hbj
    have:=hs1.hp.inj _ _ _ _ b c h2 h4 hbi hbj hbc
    rw [this]
  ·rcases hcase i k hi with ⟨h1,h2⟩ | ⟨q,kb,rfl,_,h2,rfl,_⟩
   ·simp only [μ2,if_pos h1] at hbi
    rcases hup.nw b.1 hr with h | h | ⟨q,m,hq,hm⟩
    ·exact hst.hp.own i k b (MB h2).2 hbi h
    ·have:=hst.hp.lt i b hbi; omega
    ·exact hoth h2 hbi q m hq hm
   ·rw [hfN] at hbi
    exact hs1.hp.own _ _ b h2 hbi hr
  ·simp only [μ2] at hbi
   split at hbi
   ·exact Nat.lt_of_lt_of_le (hst.hp.lt i b hbi) hup.fr.size
   ·exact hs1.hp.lt _ b hbi
  ·simp only at hi
   simp only [μ2]
   rw [if_neg (by omega)]
   exact hs1.hp.nx _ (by rw [hnx1]; omega)
def Hm.quiet:Hm→Bool
 | .panic _=>false
 | _=>true
def Giu (i:Nat):List Nat→Nat
 | []=>0
 | x::l=>match Nat.beq x i with | true=>0 | false=>Giu i l+1
def un (r:List Nat):Nat→AV→AV
 | 0,v=>match v with | .ptr i o=>.ptr (Giu i r) o | .sl i o l c e z=>.sl (Giu i r) o l c e z | .vec i n z=>.vec (Giu i r) n z | .mapr i=>.mapr (Giu i r) | .yld i=>.yld (Giu i r) | .stp i=>.stp (Giu i r) | v=>v
 | k+1,v=>match v with | .ptr i o=>.ptr (Giu i r) o | .sl i o l c e z=>.sl (Giu i r) o l c e z | .vec i n z=>.vec (Giu i r) n z | .mapr i=>.mapr (Giu i r) | .yld i=>.yld (Giu i r) | .stp i=>.stp (Giu i r) | .agg c=>.agg (c.map (un r k)) | .tup c=>.tup (c.map (un r k)) | .fn f a c=>.fn f (a.map (un r k)) (c.map (un r k)) | .ifc t v=>.ifc t (un r k v) | v=>v
def GmD (r:List Nat):Nat→AV→Bool
 | 0,v=>match v with | .ptr i _=>Hh i r | .sl i _ _ _ _ _=>Hh i r | .vec i _ _=>Hh i r | .mapr i=>Hh i r | .yld i=>Hh i r | .stp i=>Hh i r | _=>true
 | k+1,v=>match v with | .ptr i _=>Hh i r | .sl i _ _ _ _ _=>Hh i r | .vec i _ _=>Hh i r | .mapr i=>Hh i r | .yld i=>Hh i r | .stp i=>Hh i r | .agg c=>c.all (GmD r k) | .tup c=>c.all (GmD r k) | .fn _ a c=>a.all (GmD r k)&&c.all (GmD r k) | .ifc _ v=>GmD r k v | _=>true
theorem GmX {i:Nat}:∀ {r:List Nat},Hh i r=true→rho r (Giu i r)=i
 | [],h=>by simp [Hh] at h
 | x::l,h=>by
  rw [GkE] at h
  unfold Giu
  cases hb:Nat.beq x i with
  | true=>simp only; exact Nat.eq_of_beq_eq_true hb
  | false=>
   have hne:¬ i=x:=fun e=>Nat.ne_of_beq_eq_false hb e.symm
   rw [if_neg hne] at h
   simp only
   have:=GmX h
   exact this
theorem Gkz {f:AV→AV} {p:AV→Bool} (hf:∀ v,p v=true→f v=v):∀ {c:List AV},c.all p=true→c.map f=c
 | [],_=>rfl
 | v::c,h=>by
  simp only [List.all_cons,Bool.and_eq_true] at h
  rw [List.map_cons,hf v h.1,Gkz hf h.2]
theorem GkS {r:List Nat}:∀ (k:Nat) (v:AV),GmD r k v=true→ren r k (un r k v)=v
 | 0,v,h=>by
  cases v <;> simp only [GmD] at h <;> simp only [un,ren] <;> first | rfl | rw [GmX h]
 | k+1,v,h=>by
  cases v <;> simp only [GmD,Bool.and_eq_true] at h <;> simp only [un,ren,List.map_map] <;> first
   | rfl
   | rw [GmX h]
   | rw [Gkz (f:=ren r k ∘ un r k) (fun v hv=>GkS k v hv) h]
   | rw [Gkz (f:=ren r k ∘ un r k) (fun v hv=>GkS k v hv) h.1,Gkz (f:=ren r k ∘ un r k) (fun v hv=>GkS k v hv) h.2]
   | rw [GkS k _ h]
def Gqy (t:Tr AV) (r:List Nat):List (Nat×AV)→W (List (Nat×AV))
 | []=>W.pure []
 | (k,v)::l=>
  match t.get k with
  | some v'=>
   match v with
   | .any=>match GmD r 4 v' with | true=>(Gqy t r l).bind fun l'=>W.pure ((k,un r 4 v')::l') | false=>W.fail
   | v=>(W.owe (v'=ren r 4 v)).bind fun _=>(Gqy t r l).bind fun l'=>W.pure ((k,v)::l')
  | none=>W.fail
theorem GkO {t:Tr AV} {r:List Nat}:∀ {l:List (Nat×AV)},(Gqy t r l).sat fun l'=>GlA t r l'
 | []=>W.sat_pure trivial
 | (k,v)::l=>by
  unfold Gqy
  split
  ·rename_i v' hv
   split
   ·split
    ·rename_i ha
     refine W.sat_bind GkO fun l' h2=>W.sat_pure ⟨?_,h2⟩
     rw [hv,GkS 4 v' ha]
    ·exact W.sat_fail
   ·refine W.sat_bind W.sat_owe fun _ h1=>W.sat_bind GkO fun l' h2=>W.sat_pure ⟨?_,h2⟩
    rw [hv,h1]
  ·exact W.sat_fail
def bS:G6:={ c:=[],e:=987654321,ext:=false,fz:=0,pl:=false }
def isS (b:G6):Bool:=Nat.beq b.e 987654321
def unB (r:List Nat) (b:G6):G6:={ b with c:=match b.pl with | true=>b.c | false=>b.c.map (un r 6) }
def GsG (m:Tr Ob) (r:List Nat) (i:Nat) (b:G6):W G6:=
 match isS b with
 | true=>
  match m.get i with
  | some (.blk k)=>match k.it.isNone&&(k.pl||k.c.all (GmD r 6)) with | true=>W.pure (unB r k) | false=>W.fail
  | some (.map kd es)=>W.pure { c:=[],e:=0,ext:=false,fz:=0,pl:=false,o:=false,it:=some (.map kd es) }
  | _=>W.fail
 | false=>(Gpb m r [i] [b]).bind fun _=>W.pure b
theorem GrO {m:Tr Ob} {r:List Nat} {i:Nat} {b:G6}:(GsG m r i b).sat fun b'=>m.get i=some (MA r b').ob:=by
 unfold GsG
 split
 ·split
  ·rename_i k hk
   split
   ·rename_i h
    refine W.sat_pure ?_
    simp only [Bool.and_eq_true,Bool.or_eq_true,Option.isNone_iff_eq_none] at h
    have e:MA r (unB r k)=k:=by
     unfold MA unB
     cases hp:k.pl with
     | true=>obtain ⟨c,e,x,f,p,o,it⟩:=k; simp only at hp; subst hp; rfl
     | false=>
      have h2:k.c.all (GmD r 6)=true:=by
       rcases h.2 with h2 | h2
       ·rw [hp] at h2; cases h2
       ·exact h2
      simp only [List.map_map]
      rw [Gkz (f:=ren r 6 ∘ un r 6) (fun v hv=>GkS 6 v hv) h2]
      obtain ⟨c,e,x,f,p,o,it⟩:=k
      simp only at hp; subst hp; rfl
    rw [e,hk]
    simp [G6.ob,h.1]
   ·exact W.sat_fail
  ·rename_i kd es hk
   refine W.sat_pure ?_
   rw [hk]
   rfl
  ·exact W.sat_fail
 ·exact W.sat_bind ZK fun _ h=>W.sat_pure h.1
def Gva (m:Tr Ob) (r:List Nat):List Nat→List G6→W (List G6)
 | [],[]=>W.pure []
 | i::l,b::bs=>(GsG m r i b).bind fun b'=>(Gva m r l bs).bind fun bs'=>W.pure (b'::bs')
 | _,_=>W.fail
theorem Goy {m:Tr Ob} {r:List Nat}:∀ {l:List Nat} {bs:List G6},(Gva m r l bs).sat fun bs'=>R4 m r l bs'
 | [],[]=>W.sat_pure trivial
 | i::l,b::bs=>W.sat_bind GrO fun b' h1=>W.sat_bind Goy fun bs' h2=>W.sat_pure ⟨h1,h2⟩
 | [],_::_=>W.sat_fail
 | _::_,[]=>W.sat_fail
def Gtb (P:Program) (G:Nat→AV) (n m:Nat) (c:Code) (s:St) (e:Hm) (tms':List (Nat×AV)) (blks':List G6) (ρ:List Nat) (tms:List (Nat×AV)) (blks:List G6):W St:=
 match s.df,(blks'.all Gux&&tms'.all fun x=>Gmc 4 x.2)&&e.quiet&&Nat.ble n s.hp.nx&&Nat.ble m ρ.length with
 | [],true=>(Gqy s.tm ρ tms).bind fun t1=>(Gva s.hp.m ρ ρ blks).bind fun b1=>
  match okS ρ t1 b1 with
  | true=>(W.owe (GI P G m c (S s.nt t1 b1) e (S s.nt tms' blks'))).bind fun _=>W.pure (Gqw s m tms' blks' ρ)
  | false=>W.fail
 | _,_=>W.fail
theorem GoR {n m:Nat} {c:Code} {s:St} {e:Hm} {tms':List (Nat×AV)} {blks':List G6} {ρ:List Nat} {tms:List (Nat×AV)} {blks:List G6}:
  (Gtb P G n m c s e tms' blks' ρ tms blks).sat fun s'=>GI P G n c s e s':=by
 unfold Gtb
 split
 ·rename_i hd hc
  simp only [Bool.and_eq_true] at hc
  refine W.sat_bind GkO fun t1 h1=>W.sat_bind Goy fun b1 h2=>?_
  split
  ·rename_i hok
   exact W.sat_bind W.sat_owe fun _ h3=>W.sat_pure (h3.frame ρ (fun v hv=>by rw [hv] at hc; exact absurd hc.1.1.2 (by simp [Hm.quiet])) (nB hc.1.2) (nB hc.2) hd h1 h2 hok (by simp only [Bool.and_eq_true]; exact hc.1.1.1))
  ·exact W.sat_fail
 ·exact W.sat_fail
def GlX (s:St):List CH→W (St×List CH)
 | .tr f::hs=>(aTf s f).bind fun s'=>GlX s' hs
 | hs=>W.pure (s,hs)
theorem GcW {n:Nat}:∀ (hs:List CH) (s:St),(GlX s hs).sat fun r=>R7 n s r.1
 | [],s=>W.sat_pure R7.refl
 | .tr f::hs,s=>W.sat_bind Gqc fun s' h1=>W.sat_mono (GcW hs s') fun r h2=>h1.trans h2
 | .op _ _::hs,s=>W.sat_pure R7.refl
 | .ret _ _ _ _::hs,s=>W.sat_pure R7.refl
 | .br _::hs,s=>W.sat_pure R7.refl
 | .cut _ _ _ _ _::hs,s=>W.sat_pure R7.refl
 | .fcut _ _ _ _ _ _ _::hs,s=>W.sat_pure R7.refl
 | .draw _::hs,s=>W.sat_pure R7.refl
 | .trp _::hs,s=>W.sat_pure R7.refl
 | .spec _::hs,s=>W.sat_pure R7.refl
 | .fcuta _ _ _ _ _ _ _ _::hs,s=>W.sat_pure R7.refl
def Gq2 (s:St):List CH→W (St×List CH)
 | .trp f::hs=>(aTf s f).bind fun s'=>Gq2 s' hs
 | hs=>W.pure (s,hs)
theorem Gop {n:Nat}:∀ (hs:List CH) (s:St),(Gq2 s hs).sat fun r=>R7 n s r.1
 | [],s=>W.sat_pure R7.refl
 | .trp f::hs,s=>W.sat_bind Gqc fun s' h1=>W.sat_mono (Gop hs s') fun r h2=>h1.trans h2
 | .op _ _::hs,s=>W.sat_pure R7.refl
 | .ret _ _ _ _::hs,s=>W.sat_pure R7.refl
 | .br _::hs,s=>W.sat_pure R7.refl
 | .cut _ _ _ _ _::hs,s=>W.sat_pure R7.refl
 | .fcut _ _ _ _ _ _ _::hs,s=>W.sat_pure R7.refl
 | .draw _::hs,s=>W.sat_pure R7.refl
 | .tr _::hs,s=>W.sat_pure R7.refl
 | .spec _::hs,s=>W.sat_pure R7.refl
 | .fcuta _ _ _ _ _ _ _ _::hs,s=>W.sat_pure R7.refl
def GsE:List CH→Bool
 | .tr _::_=>true
 | .trp _::_=>true
 | _=>false
theorem Gr7 {hs:List CH} {s:St} (h:GsE hs=false):GlX s hs=W.pure (s,hs):=by
 unfold GlX
 split
 ·cases h
 ·rfl
theorem Gsj {hs:List CH} {s:St} (h:GsE hs=false):Gq2 s hs=W.pure (s,hs):=by
 unfold Gq2
 split
 ·cases h
 ·rfl
def GbU (P:Program) (G:Nat→AV) (callB:Kz) (ops:Array Oper) (i:Nat) (s:St) (hs:List CH):W ((Hm×St×List CH)×Bool):=
 (GlX s hs).bind fun q=>
 match Nat.ble s.hp.nx q.1.hp.nx with
 | true=>(V4 P G callB ops i q.1 q.2).bind fun r=>
  match r.1 with
  | .normal=>(Gq2 r.2.1 r.2.2).bind fun z=>W.pure ((.normal,z),GsE hs||GsE r.2.2)
  | e=>W.pure ((e,r.2),true)
 | false=>W.fail
theorem GqX {callB:Kz} (hcall:∀ f args h hs,(callB f args h hs).sat fun r=>Hl P G f args h r.1 r.2.1) {ops:Array Oper} {i:Nat} {s:St} {hs:List CH}:
  (GbU P G callB ops i s hs).sat fun r=>Va P G ops i s r.1.1 r.1.2.1:=by
 refine W.sat_bind (GcW (n:=s.hp.nx) hs s) fun q hq=>?_
 split
 ·rename_i hb
  have hle:=nB hb
  refine W.sat_bind (ZJ hcall) fun r ⟨hr,hhere⟩=>?_
  have comp:∀ {e:Hm} {s1 s2:St},Va P G ops i q.1 e s1→R7 s.hp.nx s1 s2→(∀ v,e=.panic v→s2=s1)→Va P G ops i s e s2:=fun {e s1 s2} h1 h2 h3=>by
   intro μ ro a w Q K hst hpost
   obtain ⟨μ0,ro0,q1,q2,q3,q4,hst0⟩:=hq G μ ro w a hst
   have hup0:=(Up.refl s.hp.nx μ ro w).subr q1 q2 q3 q4
   refine h1 μ0 ro0 a w Q K hst0 fun μ' ro' a' w' hup hst'=>?_
   refine ⟨fun he hp=>?_,fun v x he hx=>?_⟩
   ·obtain ⟨μ1,ro1,g1,g2,g3,g4,hst1⟩:=h2 G μ' ro' w' a' hst'
    exact (hpost μ1 ro1 a' w' ((hup0.trans (hup.mono hle)).subr g1 g2 g3 g4) hst1).1 he hp
   ·have:=h3 v he
    subst this
    exact (hpost μ' ro' a' w' (hup0.trans (hup.mono hle)) hst').2 v x he hx
  obtain ⟨e,s1,hs1⟩:=r
  cases e with
  | normal=>exact W.sat_bind (Gop (n:=s.hp.nx) hs1 s1) fun z hz=>W.sat_pure (comp hr hz (fun v hv=>by cases hv))
  | _=>exact W.sat_pure (comp hr R7.refl (fun _ _=>rfl))
 ·exact W.sat_fail
end
end Go.Proofs.YtnlaiahcemckkaaGreatDoor.Av
