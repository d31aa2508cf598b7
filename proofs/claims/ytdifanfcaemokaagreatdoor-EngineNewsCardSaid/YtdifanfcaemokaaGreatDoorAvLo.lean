import Derived.Test.YtdifanfcaemokaaGreatDoorBCS
open Prod (fst)
open Int (tdiv tmod)
set_option linter.unusedVariables false
set_option linter.unusedSimpArgs false
namespace Go.Proofs.YtdifanfcaemokaaGreatDoor.Av
noncomputable section
open Go.RowKit
variable {P:Program} {G:Nat→AV} {μ μ':Nat→Option HY} {ro ro':Nat→Prop} {w w':World}
theorem GaH {ops:Array Oper} {Q:Exit→Act→World→Prop} (l2:List Nat):∀ (l1:List Nat) (a:Act) (w:World),
  wpOps P ops (fun e a w=>(e=.normal→wpOps P ops Q l2 a w)∧(e≠.normal→Q e a w)) l1 a w→wpOps P ops Q (l1++l2) a w
 | [],a,w,h=>h.1 rfl
 | i::l1,a,w,h=>by
  rw [List.cons_append]
  unfold wpOps at h ⊢
  cases ho:ops[i]? with
  | none=>rw [ho] at h; exact GaH l2 l1 a w h
  | some o=>
   rw [ho] at h
   simp only at h ⊢
   split
   ·rename_i hw
    rw [if_pos hw] at h
    rcases h with h | ⟨h1,h2⟩
    ·refine .inl ?_
     have h3:=Oper.wp_mono (fun a w hk=>GaH l2 l1 a w hk) h
     unfold Oper.wp at h3 ⊢
     generalize (execOp a.eval o).run P w=r at h3 ⊢
     cases r with
     | ok n w'=>
      cases n <;> simp only [Oper.upon] at h3 ⊢ <;>
       first
        | exact h3
        | exact Calls.mono h3 (fun e w'' he=>by cases e <;> first | exact he.2 (by simp) | (obtain ⟨a,w,h⟩:=he; exact ⟨a,w,h.2 (by simp)⟩) | exact he)
        | exact Rows.mono h3 (fun _ _ he=>by first | exact he | exact he.2 (by simp))
        | exact h3.2 (by simp)
     | halt x w=>cases x <;> simp only [Oper.upon] at h3 ⊢ <;> first | exact h3.2 (by simp) | exact h3
    ·exact .inr ⟨h1,by obtain ⟨a,w,h⟩:=h2; exact ⟨a,w,h.2 (by simp)⟩⟩
   ·rename_i hw
    rw [if_neg hw] at h
    exact GaH l2 l1 _ w h
structure Gce (P:Program) (G:Nat→AV) (n:Nat) (ops:Array Oper) (l:List Nat) (s:St) (e:Hm) (s':St):Prop where
 mk'::
 get:∀ μ ro a w (Q:Exit→Act→World→Prop),Hc G μ ro w s a→(∀ e' a' w',Mu n G μ ro w e s' e' a' w'→Q e' a' w')→wpOps P ops Q l a w
def Gyd (c:Code):Array Oper:=match c with | .region _ ops _=>ops | _=>#[]
def GxU (P:Program) (G:Nat→AV) (fuel m:Nat) (ops:Array Oper) (l:List Nat) (s:St) (hs:List CH):W (Hm×St×List CH):=Gqf P G m (Gah P G (GlL P G) (ev P G fuel)) ops l s hs
theorem Gce.of_viewM (m fuel:Nat) (hs:List CH) (ρ:List Nat) {ops:Array Oper} {l:List Nat} {s:St} {nt:Nat} {tms:List (Nat×AV)} {blks:List Hb} {ps:List Prop}
  (he:Gtw (tms.map (·.1)) ρ (GxU P G fuel m ops l s hs)=some (.normal,tms.map (fun x=>some (ren ρ 4 x.2)),blks.map (fun b=>some (KO ρ b).ob),nt,true,ps))
  (hc:(okS ρ tms blks&&idM ρ m)=true) (hok:KX ps):Gce P G m ops l s .normal (S nt tms blks):=by
 unfold GxU at he
 cases hr:Gqf P G m (Gah P G (GlL P G) (ev P G fuel)) ops l s hs with
 | none=>rw [hr] at he; cases he
 | some x=>
  obtain ⟨⟨e',s',rest⟩,ps'⟩:=x
  rw [hr] at he
  simp only [Gtw,sJ,Prod.mk.injEq] at he
  obtain ⟨rfl,h1,h2,h3,h4,rfl⟩:=he
  simp only [Bool.and_eq_true] at hc
  have hsub:Uc m s' (S nt tms blks):=Uc.of_renM ρ h3 (List.isEmpty_iff.1 h4) (Gl2 h1) (XZ h2) (by have:=hc.1; simp only [okS,Bool.and_eq_true] at this ⊢; exact this) m (GeS hc.2)
  refine ⟨fun μ ro a w Q hst hq=>?_⟩
  refine Gmq (Vk (GvC P G fuel)) l s hs _ _ hr hok μ ro a w Q hst fun e' a' w' hp=>hq e' a' w' (Mu.sub (by simp) hp hsub)
theorem M1.region_show {id j:Nat} {n:Nat} {ops:Array Oper} {l1 l2:List Nat} {s s1:St} {kd:KK} {es:List (AV×AV)} {s2:Nat→List (AV×AV)→List MapEntry→Nat→St} (hl:List.range ops.size=l1++l2)
  (h1:Gce P G n ops l1 s .normal s1) (hk:s1.hp.m.get j=some (.map kd es))
  (h2:∀ m es' ms cl,es.Perm es'→es'.length=ms.length→(ms.map (·.born)).Nodup→Gce P G n ops l2 { s1 with hp:=s1.hp.set j (.rm m kd es' ms cl) } .normal (s2 m es' ms cl)):
  M1 P G n (.region id ops false) s fun e s'=>e=.normal∧∃ m es' ms cl,es.Perm es'∧es'.length=ms.length∧(ms.map (·.born)).Nodup∧s'=s2 m es' ms cl:=fun μ ro a w hst=>by
 refine wp_region ?_
 rw [hl]
 refine GaH l2 l1 a w (h1.get μ ro a w _ hst fun e' a' w' hp=>⟨fun he=>?_,fun he=>?_⟩)
 ·subst he
  obtain ⟨μ1,ro1,q1,q2,q3⟩:=hp
  obtain ⟨m,es',ms,cl,g1,g2,g3,g4⟩:=q3.hp.show hk
  exact (h2 m es' ms cl g1 g2 g3).get μ1 ro1 a' w' _ ⟨q3.tm,q3.nt,g4,q3.gl,q3.df⟩ fun e2 a2 w2 hp2=>⟨_,_,⟨rfl,m,es',ms,cl,g1,g2,g3,rfl⟩,Mu.trans q1 hp2⟩
 ·obtain ⟨μ1,ro1,q1,q2,q3⟩:=hp
  cases e' <;> simp only [Vd] at q2
  exact absurd rfl he
theorem Go6 {α:Type}:∀ l:List α,((List.range l.length).filterMap fun x=>l[x]?)=l
 | []=>rfl
 | y::l=>by
  rw [List.length_cons,List.range_succ_eq_map,List.filterMap_cons]
  simp only [List.getElem?_cons_zero,List.filterMap_map]
  exact congrArg (y :: ·) (Go6 l)
theorem Gwx {σ α:Type} (ent:α→AV×AV) {l:List α} {ops:Array Oper} {rest:Code} {n id:Nat} {ti td te i j m cl nt:Nat} {kd:KK} {ms:List MapEntry} (f:σ→α→Option σ) (H:σ→List Nat→St) (E:σ→St) (e0:Hm)
  (hlen:l.length=ms.length) (hnd:(ms.map (·.born)).Nodup) (hops:GnZ ops ti td te nt)
  (hH:∀ s seen,(H s seen).nt=nt∧n≤(H s seen).hp.nx∧(H s seen).tm.get ti=some (.ptr i 0)∧(H s seen).hp.m.get i=some (.mit m cl seen cl)∧(H s seen).hp.m.get j=some (.rm m kd (l.map ent) ms cl)) (he0:e0≠.normal)
  (round:∀ (s s':σ) (seen:List Nat) (x:Nat) (e:MapEntry) (y:α),ms[x]?=some e→l[x]?=some y→f s y=some s'→GN P G n rest (GlK (H s seen) i td te (.tup [.bool true,(ent y).1,(ent y).2]) true (.mit m cl (seen++[e.born]) cl)) .normal (H s' (seen++[e.born])))
  (done:∀ s seen,GN P G n rest (GlK (H s seen) i td te (.tup [.bool false]) false (.mit m cl seen cl)) e0 (E s)) {s0:σ}
  (hf:∀ es':List α,es'.Perm l→es'.foldlM f s0≠none):
  M1 P G n (.loop (.seq (.region id ops false) rest)) (H s0 []) fun e s'=>e=e0∧∃ (es':List α) (s:σ),es'.Perm l∧es'.foldlM f s0=some s∧s'=E s:=by
 let I:Nat→St→Prop:=fun q s=>∃ (L:List Nat) (t:σ),L.Nodup∧(∀ x ∈ L,x<ms.length)∧(L.filterMap fun x=>l[x]?).foldlM f s0=some t∧s=H t (L.map (Gos ms))∧q=ms.length - L.length
 have hfull:∀ {L:List Nat},L.Nodup→(∀ x ∈ L,x<ms.length)→∃ M,(L++M).Perm (List.range ms.length):=fun {L} h1 h2=>by
  refine ⟨(List.range ms.length).filter fun x=>!decide (x ∈ L),?_⟩
  rw [List.perm_ext_iff_of_nodup]
  ·intro x
   simp only [List.mem_append,List.mem_filter,List.mem_range,Bool.not_eq_true',decide_eq_false_iff_not]
   constructor
   ·rintro (h | h)
    ·exact h2 x h
    ·exact h.1
   ·intro h
    by_cases hx:x ∈ L
    ·exact .inl hx
    ·exact .inr ⟨h,hx⟩
  ·rw [List.nodup_append]
   refine ⟨h1,List.Pairwise.filter _ List.nodup_range,fun x hx y hy e=>?_⟩
   subst e
   simp [hx] at hy
  ·exact List.nodup_range
 have hgo:∀ {L:List Nat} {x:Nat} {y:α} {t:σ},l[x]?=some y→(L++[x]).Nodup→(∀ y ∈ L++[x],y<ms.length)→(L.filterMap fun x=>l[x]?).foldlM f s0=some t→∃ t',f t y=some t':=fun {L x y t} hy h1 h2 h3=>by
  obtain ⟨M,hM⟩:=hfull h1 h2
  have h4:=hf ((L++[x]++M).filterMap fun x=>l[x]?) (by have:=hM.filterMap fun x=>l[x]?; rwa [← hlen,Go6] at this)
  cases hq:f t y with
  | some t'=>exact ⟨t',rfl⟩
  | none=>
   refine absurd ?_ h4
   rw [List.filterMap_append,List.filterMap_append,List.foldlM_append,List.foldlM_append,h3]
   simp [List.foldlM,hy,hq]
 refine M1.mono (M1.loop (I:=I) (R:=fun e s'=>e=e0∧∃ (es':List α) (s:σ),es'.Perm l∧es'.foldlM f s0=some s∧s'=E s) ?_ (m:=ms.length) (s:=H s0 []) ⟨[],s0,List.nodup_nil,(fun x h=>absurd h (by simp)),rfl,rfl,rfl⟩) fun _ _ h=>h
 rintro q s ⟨L,t,hL1,hL2,hL3,rfl,rfl⟩
 obtain ⟨g1,g2,g3,g4,g5⟩:=hH t (L.map (Gos ms))
 refine M1.seq (Gs6 (i:=i) (j:=j) (g1 ▸ hops) g2 g3 g4 g5) (fun s1 hs1=>?_) (fun e s1 hne h=>absurd h.1 hne)
 rcases hs1.2 with ⟨x,e,k,v,q1,q2,q3,rfl⟩ | ⟨q1,rfl⟩
 ·have hxl:x<ms.length:=(List.getElem?_eq_some_iff.1 q1).1
  have hxn:x ∉ L:=fun hx=>q3 (List.mem_map.2 ⟨x,hx,by simp [Gos,q1]⟩)
  have hN:(L++[x]).Nodup:=by
   rw [List.nodup_append]
   refine ⟨hL1,List.nodup_cons.2 ⟨by simp,List.nodup_nil⟩,fun y hy z hz e=>?_⟩
   simp only [List.mem_singleton] at hz
   subst hz; subst e; exact hxn hy
  have hlt:∀ y ∈ L++[x],y<ms.length:=fun y hy=>by
   rcases List.mem_append.1 hy with h | h
   ·exact hL2 y h
   ·simp only [List.mem_singleton] at h; subst h; exact hxl
  rw [List.getElem?_map] at q2
  obtain ⟨y,hy,hye⟩:=Option.map_eq_some_iff.1 q2
  obtain ⟨t',ht'⟩:=hgo hy hN hlt hL3
  have hk:k=(ent y).1:=by rw [hye]
  have hv:v=(ent y).2:=by rw [hye]
  subst hk hv
  refine (round t t' _ x e y q1 hy ht').toE.mono fun e1 s2 h=>?_
  obtain ⟨rfl,rfl⟩:=h
  have hcard:L.length<ms.length:=by
   obtain ⟨M,hM⟩:=hfull hN hlt
   have:=hM.length_eq
   simp only [List.length_append,List.length_cons,List.length_nil,List.length_range] at this
   omega
  refine .inl ⟨rfl,_,?_,L++[x],t',hN,hlt,?_,?_,rfl⟩
  ·simp only [List.length_append,List.length_cons,List.length_nil]; omega
  ·rw [List.filterMap_append,List.foldlM_append,hL3]
   simp [List.foldlM,hy,ht']
  ·simp [Gos,q1]
 ·refine (done t _).toE.mono fun e1 s2 h=>?_
  obtain ⟨rfl,rfl⟩:=h
  refine .inr ⟨he0,rfl,L.filterMap fun x=>l[x]?,t,?_,hL3,rfl⟩
  have hp:L.Perm (List.range ms.length):=by
   rw [List.perm_ext_iff_of_nodup hL1 List.nodup_range]
   intro x
   rw [List.mem_range]
   refine ⟨hL2 x,fun hx=>?_⟩
   have h1:ms[x]?=some ms[x]:=List.getElem?_eq_getElem hx
   obtain ⟨y,hy,hyb⟩:=List.mem_map.1 (q1 _ (List.mem_of_getElem? h1))
   have h2:ms[y]?=some (ms[y]'(hL2 y hy)):=List.getElem?_eq_getElem (hL2 y hy)
   have:=GAl hnd h2 h1 (by simpa [Gos,h2] using hyb)
   exact this ▸ hy
  have:=hp.filterMap fun x=>l[x]?
  rwa [← hlen,Go6] at this
end
end Go.Proofs.YtdifanfcaemokaaGreatDoor.Av
