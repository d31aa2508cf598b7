import Derived.Test.YtdifanfcaemokaaGreatDoorAvL
import Derived.DeepKeys
import Derived.WideKeyRuns
import Derived.Laws.Externs
import Derived.Lib.Bytealg
open Prod (fst)
open Int (tdiv tmod)
set_option linter.unusedVariables false
set_option linter.unusedSimpArgs false
namespace Go.Proofs.YtdifanfcaemokaaGreatDoor.Av
noncomputable section
open Go.RowKit
variable {P:Program} {μ μ':Nat→Option HY} {ro ro':Nat→Prop} {w w':World}
def Gku:AV→AV→Bool
 | .str s,.str t=>decide (s=t)
 | .int k a,.int j b=>decide (k=j)&&decide (a=b)
 | _,_=>false
def Gfq:List AV→List AV→Bool
 | [],[]=>true
 | a::as,b::bs=>Gku a b&&Gfq as bs
 | _,_=>false
def KY:AV→AV→Bool
 | .str s,.str t=>decide (s=t)
 | .int k a,.int j b=>decide (k=j)&&decide (a=b)
 | .agg as,.agg bs=>Gfq as bs
 | _,_=>false
def GnI:TypeDesc→Option KB
 | .string=>some .s
 | .int k=>some (.i k)
 | _=>none
def GuB (P:Program):List Field→Nat→Option (List KB)
 | [],_=>some []
 | f::fs,n=>
  match decide (f.name ≠ "_")&&Nat.beq f.offset n,(P.underlying f.type).bind GnI,GuB P fs (n+1) with
  | true,some b,some l=>some (b::l)
  | _,_,_=>none
def kdT (P:Program) (t:TypeId):Option KK:=
 match P.underlying t with
 | some .string=>some .s
 | some (.int k)=>some (.i k)
 | some (.struct fs)=>match P.stoodInHeld t with | false=>(GuB P fs.toList 0).map .g | true=>none
 | some (.array n e)=>match (P.underlying e).bind GnI,Ug P e with | some b,some 1=>some (.g (List.replicate n b)) | _,_=>none
 | _=>none
def Gz6:KB→KB→Bool
 | .s,.s=>true
 | .i j,.i k=>decide (j=k)
 | _,_=>false
def GvK:List KB→List KB→Bool
 | [],[]=>true
 | a::as,b::bs=>Gz6 a b&&GvK as bs
 | _,_=>false
def GuE:KK→KK→Bool
 | .s,.s=>true
 | .i j,.i k=>decide (j=k)
 | .g l,.g m=>GvK l m
 | _,_=>false
theorem Gy3 {a b:KB} (h:Gz6 a b=true):a=b:=by
 cases a <;> cases b <;> simp [Gz6] at h ⊢ <;> exact h
theorem Gs0:∀ {a b:List KB},GvK a b=true→a=b
 | [],[],_=>rfl
 | a::as,b::bs,h=>by
  simp only [GvK,Bool.and_eq_true] at h
  rw [Gy3 h.1,Gs0 h.2]
 | [],_::_,h=>by cases h
 | _::_,[],h=>by cases h
theorem GlD {a b:KK} (h:GuE a b=true):a=b:=by
 cases a <;> cases b <;> simp [GuE] at h ⊢ <;> first | exact h | exact Gs0 h
theorem Gme {s t:List UInt8} (h:Value.string ⟨s.toArray⟩=Value.string ⟨t.toArray⟩):s=t:=by
 injection h with h
 injection h with h
 simpa using congrArg Array.toList h
theorem GuC {kd:KB} {k key:AV} {a b:Value} (ha:JC kd k=some a) (hb:JC kd key=some b):Gku k key=true↔a=b:=by
 cases kd with
 | s=>
  cases k <;> simp only [JC,reduceCtorEq] at ha
  cases key <;> simp only [JC,reduceCtorEq] at hb
  simp only [sJ] at ha hb
  subst ha; subst hb
  simp only [Gku,decide_eq_true_eq]
  exact ⟨fun h=>by rw [h],Gme⟩
 | i j=>
  cases k <;> simp only [JC,reduceCtorEq] at ha
  cases key <;> simp only [JC,reduceCtorEq] at hb
  split at ha
  ·split at hb
   ·rename_i h1 h2
    simp only [sJ] at ha hb
    subst ha; subst hb; subst h1; subst h2
    simp [Gku]
   ·cases hb
  ·cases ha
theorem Ju {b:KB} {l:List KB} {c:AV} {cs:List AV} {vs:List Value} (h:JV (b::l) (c::cs)=some vs):∃ v us,vs=v::us∧JC b c=some v∧JV l cs=some us:=by
 unfold JV at h
 split at h
 ·rename_i v us h1 h2
  cases h
  exact ⟨v,us,rfl,h1,h2⟩
 ·cases h
theorem GoP:∀ {l:List KB} {as bs:List AV} {vs us:List Value},JV l as=some vs→JV l bs=some us→(Gfq as bs=true↔vs=us)
 | [],[],[],vs,us,ha,hb=>by
  simp only [JV,sJ] at ha hb
  subst ha; subst hb
  simp [Gfq]
 | b::l,x::xs,y::ys,vs,us,ha,hb=>by
  obtain ⟨v,vs',rfl,h1,h2⟩:=Ju ha
  obtain ⟨u,us',rfl,h3,h4⟩:=Ju hb
  simp only [Gfq,Bool.and_eq_true,List.cons.injEq]
  rw [GuC h1 h3,GoP h2 h4]
 | [],_::_,_,_,_,ha,_=>by cases ha
 | [],[],_::_,_,_,_,hb=>by cases hb
 | _::_,[],_,_,_,ha,_=>by cases ha
 | _::_,_::_,[],_,_,_,hb=>by cases hb
theorem RZ {kd:KK} {k key:AV} {a b:Value} (ha:He kd k=some a) (hb:He kd key=some b):KY k key=true↔a=b:=by
 cases kd with
 | s=>
  cases k <;> simp only [He,reduceCtorEq] at ha
  cases key <;> simp only [He,reduceCtorEq] at hb
  simp only [sJ] at ha hb
  subst ha; subst hb
  simp only [KY,decide_eq_true_eq]
  exact ⟨fun h=>by rw [h],Gme⟩
 | i j=>
  cases k <;> simp only [He,reduceCtorEq] at ha
  cases key <;> simp only [He,reduceCtorEq] at hb
  split at ha
  ·split at hb
   ·rename_i h1 h2
    simp only [sJ] at ha hb
    subst ha; subst hb; subst h1; subst h2
    simp [KY]
   ·cases hb
  ·cases ha
 | g l=>
  cases k <;> simp only [He,reduceCtorEq] at ha
  cases key <;> simp only [He,reduceCtorEq] at hb
  obtain ⟨vs,h1,rfl⟩:=Option.map_eq_some_iff.1 ha
  obtain ⟨us,h2,rfl⟩:=Option.map_eq_some_iff.1 hb
  show Gfq _ _=true↔_
  rw [GoP h1 h2]
  constructor
  ·intro h; rw [h]
  ·intro h
   injection h with h
   simpa using congrArg Array.toList h
theorem Gs2 {k key:AV} (h:Gku k key=true):k=key:=by
 unfold Gku at h
 split at h
 ·rw [of_decide_eq_true h]
 ·simp only [Bool.and_eq_true,decide_eq_true_eq] at h; rw [h.1,h.2]
 ·cases h
theorem Gnq:∀ {as bs:List AV},Gfq as bs=true→as=bs
 | [],[],_=>rfl
 | a::as,b::bs,h=>by
  simp only [Gfq,Bool.and_eq_true] at h
  rw [Gs2 h.1,Gnq h.2]
 | [],_::_,h=>by cases h
 | _::_,[],h=>by cases h
theorem GoO {k key:AV} (h:KY k key=true):k=key:=by
 unfold KY at h
 split at h
 ·rw [of_decide_eq_true h]
 ·simp only [Bool.and_eq_true,decide_eq_true_eq] at h; rw [h.1,h.2]
 ·rw [Gnq h]
 ·cases h
theorem GuD {kd:KK} {k:AV} {a:Value} (h:He kd k=some a):KY k k=true:=(RZ h h).2 rfl
/-! ### what the model does with keys -/
theorem Yc {t:TypeId} {d:TypeDesc} {vs:List Value} {i:Nat} {v:Value} (hu:P.underlying t=some d) (ha:Ru d=false) (hv:vs[i]?=some v) (w:World):(part t vs.toArray i).run P w=.ok v w:=by
 simp only [part,Sem.run_bind,Gn8 hu,ha,Result.andThen_ok]
 simp [hv]
theorem GeT {t:TypeId} {b:KB} (h:(P.underlying t).bind GnI=some b):∃ d,P.underlying t=some d∧GnI d=some b∧Ru d=false:=by
 obtain ⟨d,h1,h2⟩:=Option.bind_eq_some_iff.1 h
 refine ⟨d,h1,h2,?_⟩
 cases d <;> simp [GnI] at h2 <;> rfl
theorem GsY {t:TypeId} {b:KB} {c:AV} {v:Value} (h:(P.underlying t).bind GnI=some b) (hv:JC b c=some v) (em:Bool) (n:Nat) (w:World):(Instr.checkKey em (n+1) t v).run P w=.ok () w:=by
 obtain ⟨d,h1,h2, -⟩:=GeT h
 unfold Instr.checkKey
 simp only [Sem.run_bind,GB h1,Result.andThen_ok]
 cases d <;> simp [GnI] at h2 <;> rfl
theorem GsZ {t:TypeId} {b:KB} {c e:AV} {v u:Value} (h:(P.underlying t).bind GnI=some b) (hv:JC b c=some v) (hu:JC b e=some u) (n:Nat) (w:World):
  ∃ r:Bool,(Op.equalIn (n+1) t v u).run P w=.ok r w∧(r=true↔v=u):=by
 obtain ⟨d,h1,h2, -⟩:=GeT h
 cases b with
 | s=>
  cases c <;> simp only [JC,reduceCtorEq,sJ] at hv
  cases e <;> simp only [JC,reduceCtorEq,sJ] at hu
  subst hv; subst hu
  cases d <;> simp [GnI] at h2
  rename_i s t'
  refine ⟨decide (s=t'),?_,by simp only [decide_eq_true_eq]; exact ⟨fun h=>by rw [h],Gme⟩⟩
  simp only [Op.equalIn,Sem.run_bind,GB h1,Result.andThen_ok,Sem.run_pure]
  rw [Gd2]
  congr 1
  by_cases hh:s=t' <;> simp [hh]
 | i j=>
  cases c <;> simp only [JC,reduceCtorEq] at hv
  cases e <;> simp only [JC,reduceCtorEq] at hu
  split at hv
  ·split at hu
   ·rename_i h3 h4
    simp only [sJ] at hv hu
    subst hv; subst hu; subst h3; subst h4
    cases d <;> simp [GnI] at h2
    rename_i x1 k1 x2 kk
    exact ⟨x1==x2,by simp only [Op.equalIn,Sem.run_bind,GB h1,Result.andThen_ok,if_true,Sem.run_pure],by simp⟩
   ·cases hu
  ·cases hv
theorem VR {α:Type} {l:List α} {n:Nat} {a:α} {m:List α} (h:l.drop n=a::m):l[n]?=some a∧l.drop (n+1)=m:=by
 constructor
 ·have:=congrArg (fun x=>x[0]?) h
  simpa using this
 ·rw [← List.drop_drop,h]; rfl
theorem Glx {em:Bool} {n:Nat}:∀ {fs:List Field} {off:Nat} {l:List KB} {cs:List AV} {vs us:List Value} (w:World),GuB P fs off=some l→JV l cs=some us→vs.drop off=us→
  (forIn (m:=Sem) fs PUnit.unit fun f _=>
   if f.name ≠ "_" then do
    let x ← part f.type vs.toArray f.offset
    Instr.checkKey em (n+1) f.type x
    pure (ForInStep.yield PUnit.unit)
   else pure (ForInStep.yield PUnit.unit)).run P w=.ok PUnit.unit w
 | [],off,l,cs,vs,us,w,h,h2,h3=>by simp
 | f::fs,off,l,cs,vs,us,w,h,h2,h3=>by
  unfold GuB at h
  split at h
  ·rename_i b l' hc hb hl
   cases h
   cases cs with
   | nil=>cases h2
   | cons c cs=>
    obtain ⟨v,us',rfl,q1,q2⟩:=Ju h2
    simp only [Bool.and_eq_true,decide_eq_true_eq] at hc
    have ho:=Nat.eq_of_beq_eq_true hc.2
    subst ho
    obtain ⟨g1,g2⟩:=VR h3
    obtain ⟨d,k1,k2,k3⟩:=GeT hb
    simp only [List.forIn_cons,Sem.run_bind,hc.1,ne_eq,not_false_eq_true,if_true,Result.andThen_ok,Yc k1 k3 g1,GsY hb q1,Sem.run_pure]
    exact Glx w hl q2 g2
  ·cases h
theorem Gly {n:Nat}:∀ {fs:List Field} {off:Nat} {l:List KB} {cs es:List AV} {vs us vs' us':List Value} (w:World),GuB P fs off=some l→JV l cs=some vs'→JV l es=some us'→vs.drop off=vs'→us.drop off=us'→
  ∃ r:Bool,(Op.eqFields (n+1) vs.toArray us.toArray fs).run P w=.ok r w∧(r=true↔vs'=us')
 | [],off,l,cs,es,vs,us,vs',us',w,h,h2,h3,_,_=>by
  simp only [GuB,sJ] at h
  subst h
  cases cs with
  | nil=>
   cases es with
   | nil=>
    simp only [JV,sJ] at h2 h3
    subst h2; subst h3
    exact ⟨true,by simp [Op.eqFields],by simp⟩
   | cons e es=>cases h3
  | cons c cs=>cases h2
 | f::fs,off,l,cs,es,vs,us,vs',us',w,h,h2,h3,h4,h5=>by
  unfold GuB at h
  split at h
  ·rename_i b l' hc hb hl
   cases h
   cases cs with
   | nil=>cases h2
   | cons c cs=>
    cases es with
    | nil=>cases h3
    | cons e es=>
     obtain ⟨v,vs1,rfl,q1,q2⟩:=Ju h2
     obtain ⟨u,us1,rfl,q3,q4⟩:=Ju h3
     simp only [Bool.and_eq_true,decide_eq_true_eq] at hc
     have ho:=Nat.eq_of_beq_eq_true hc.2
     subst ho
     obtain ⟨g1,g2⟩:=VR h4
     obtain ⟨g3,g4⟩:=VR h5
     obtain ⟨d,k1,k2,k3⟩:=GeT hb
     obtain ⟨r,e1,e2⟩:=GsZ hb q1 q3 n w
     obtain ⟨r',e3,e4⟩:=Gly (n:=n) (vs:=vs) (us:=us) w hl q2 q4 g2 g4
     simp only [Op.eqFields,hc.1,ne_eq,not_false_eq_true,if_true,Sem.run_bind,Yc k1 k3 g1,Yc k1 k3 g3,e1,Result.andThen_ok,List.cons.injEq]
     cases r
     ·exact ⟨false,by simp,by simp; intro e; exact absurd (e2.2 e) (by simp)⟩
     ·refine ⟨r',by simpa using e3,?_⟩
      rw [e4]
      simp [e2.1 rfl]
  ·cases h
theorem Gto {t:TypeId} (h:Ug P t=some 1):∃ i,P.info? t=some i∧i.size=1:=by
 unfold Ug at h
 obtain ⟨i,h1,h2⟩:=Option.map_eq_some_iff.1 h
 exact ⟨i,h1,h2⟩
theorem Gno {em:Bool} {n:Nat} {e:TypeId} {b:KB} {i0:TypeInfo} (hb:(P.underlying e).bind GnI=some b) (hi:P.info? e=some i0) (hs:i0.size=1) {vs:List Value}:∀ (k off:Nat) {cs:List AV} {us:List Value} (w:World),JV (List.replicate k b) cs=some us→vs.drop off=us→
  (forIn (m:=Sem) (List.range' off k) PUnit.unit fun i _=>do
   let z ← sizeOf e
   let x ← part e vs.toArray (i*z)
   Instr.checkKey em (n+1) e x
   pure (ForInStep.yield PUnit.unit)).run P w=.ok PUnit.unit w
 | 0,off,cs,us,w,h2,h3=>by simp
 | k+1,off,cs,us,w,h2,h3=>by
  rw [List.replicate_succ] at h2
  cases cs with
  | nil=>cases h2
  | cons c cs=>
   obtain ⟨v,us',rfl,q1,q2⟩:=Ju h2
   obtain ⟨g1,g2⟩:=VR h3
   obtain ⟨d,k1,k2,k3⟩:=GeT hb
   rw [List.range'_succ]
   have g1':vs[off*1]?=some v:=by rw [Nat.mul_one]; exact g1
   simp only [List.forIn_cons,Sem.run_bind,Hy hi,hs,Result.andThen_ok,Yc k1 k3 g1',GsY hb q1,Sem.run_pure]
   exact Gno hb hi hs k (off+1) w q2 g2
theorem Gnp {n:Nat} {e:TypeId} {b:KB} (hb:(P.underlying e).bind GnI=some b) {vs us:List Value}:∀ (k off:Nat) {cs es:List AV} {vs' us':List Value} (w:World),JV (List.replicate k b) cs=some vs'→JV (List.replicate k b) es=some us'→vs.drop off=vs'→us.drop off=us'→
  ∃ r:Bool,(Op.eqItems (n+1) e 1 vs.toArray us.toArray (List.range' off k)).run P w=.ok r w∧(r=true↔vs'=us')
 | 0,off,cs,es,vs',us',w,h2,h3,_,_=>by
  cases cs with
  | nil=>
   cases es with
   | nil=>
    simp only [List.replicate_zero,JV,sJ] at h2 h3
    subst h2; subst h3
    exact ⟨true,by simp [Op.eqItems],by simp⟩
   | cons e es=>cases h3
  | cons c cs=>cases h2
 | k+1,off,cs,es,vs',us',w,h2,h3,h4,h5=>by
  rw [List.replicate_succ] at h2 h3
  cases cs with
  | nil=>cases h2
  | cons c cs=>
   cases es with
   | nil=>cases h3
   | cons x es=>
    obtain ⟨v,vs1,rfl,q1,q2⟩:=Ju h2
    obtain ⟨u,us1,rfl,q3,q4⟩:=Ju h3
    obtain ⟨g1,g2⟩:=VR h4
    obtain ⟨g3,g4⟩:=VR h5
    obtain ⟨d,k1,k2,k3⟩:=GeT hb
    obtain ⟨r,e1,e2⟩:=GsZ hb q1 q3 n w
    obtain ⟨r',e3,e4⟩:=Gnp (n:=n) hb (vs:=vs) (us:=us) k (off+1) w q2 q4 g2 g4
    have g1':vs[off*1]?=some v:=by rw [Nat.mul_one]; exact g1
    have g3':us[off*1]?=some u:=by rw [Nat.mul_one]; exact g3
    rw [List.range'_succ]
    simp only [Op.eqItems,Sem.run_bind,Yc k1 k3 g1',Yc k1 k3 g3',e1,Result.andThen_ok,List.cons.injEq]
    cases r
    ·exact ⟨false,by simp,by simp; intro e; exact absurd (e2.2 e) (by simp)⟩
    ·refine ⟨r',by simpa using e3,?_⟩
     rw [e4]
     simp [e2.1 rfl]
theorem Mr {kd:KK} {kt:TypeId} {key:AV} {b:Value} (hd:kdT P kt=some kd) (hb:He kd key=some b) (em:Bool) (w:World):(Instr.checkKey em 10000 kt b).run P w=.ok () w:=by
 unfold kdT at hd
 split at hd
 ·rename_i hu
  cases hd
  unfold Instr.checkKey
  simp only [Sem.run_bind,GB hu,Result.andThen_ok]
  rfl
 ·rename_i k hu
  cases hd
  unfold Instr.checkKey
  simp only [Sem.run_bind,GB hu,Result.andThen_ok]
  rfl
 ·rename_i fs hu
  split at hd
  ·obtain ⟨l,hl,rfl⟩:=Option.map_eq_some_iff.1 hd
   cases key <;> simp only [He,reduceCtorEq] at hb
   obtain ⟨vs,h1,rfl⟩:=Option.map_eq_some_iff.1 hb
   rw [Instr.checkKey]
   simp only [Sem.run_bind,GB hu,Result.andThen_ok]
   rw [← Array.forIn_toList]
   rw [Glx (n:=9998) w hl h1 rfl]
   rfl
  ·cases hd
 ·rename_i n e hu
  split at hd
  ·rename_i b' hb' hs
   cases hd
   cases key <;> simp only [He,reduceCtorEq] at hb
   obtain ⟨vs,h1,rfl⟩:=Option.map_eq_some_iff.1 hb
   obtain ⟨i0,hi,hs1⟩:=Gto hs
   rw [Instr.checkKey]
   simp only [Sem.run_bind,GB hu,Result.andThen_ok]
   simp only [Std.Legacy.Range.forIn_eq_forIn_range',Std.Legacy.Range.size,Nat.sub_zero,Nat.add_one_sub_one,Nat.div_one]
   rw [Gno (n:=9998) hb' hi hs1 n 0 w h1 rfl]
   rfl
  ·cases hd
 ·cases hd
theorem Gzm {l:List KB} {kt:TypeId} {k key:AV} {a b:Value} (hd:kdT P kt=some (.g l)) (ha:He (.g l) k=some a) (hb:He (.g l) key=some b) (w:World):∃ r:Bool,(Op.equal kt a b).run P w=.ok r w∧(r=true↔a=b):=by
 cases k <;> simp only [He,reduceCtorEq] at ha
 cases key <;> simp only [He,reduceCtorEq] at hb
 obtain ⟨vs,h1,rfl⟩:=Option.map_eq_some_iff.1 ha
 obtain ⟨us,h2,rfl⟩:=Option.map_eq_some_iff.1 hb
 have hv:∀ {x y:List Value},(Value.agg x.toArray=Value.agg y.toArray)↔x=y:=fun {x y}=>⟨fun h=>by injection h with h; simpa using congrArg Array.toList h,fun h=>by rw [h]⟩
 unfold kdT at hd
 split at hd
 ·cases hd
 ·cases hd
 ·rename_i fs hu
  split at hd
  ·rename_i hst
   obtain ⟨l',hl,e⟩:=Option.map_eq_some_iff.1 hd
   cases e
   have hf:P.fieldsOf kt=fs:=by unfold Program.fieldsOf; rw [hu]
   obtain ⟨r,q1,q2⟩:=Gly (n:=9998) (vs:=vs) (us:=us) w hl h1 h2 rfl rfl
   refine ⟨r,?_,by rw [q2,hv]⟩
   show (Op.equalIn (9999+1) kt _ _).run P w=_
   rw [run_equalIn_struct w 9999 kt _ _ (by rw [hf]; exact hu) hst,hf]
   exact q1
  ·cases hd
 ·rename_i n e hu
  split at hd
  ·rename_i b' hb' hs
   simp only [sJ,KK.g.injEq] at hd
   subst hd
   obtain ⟨i0,hi,hs1⟩:=Gto hs
   obtain ⟨r,q1,q2⟩:=Gnp (n:=9998) hb' (vs:=vs) (us:=us) n 0 w h1 h2 rfl rfl
   refine ⟨r,?_,by rw [q2,hv]⟩
   show (Op.equalIn (9999+1) kt _ _).run P w=_
   have hc:P.cellsOf e=1:=by
    unfold Program.cellsOf
    rw [hi]
    exact hs1
   rw [run_equalIn_array w 9999 _ _ hu hi,hc,List.range_eq_range']
   exact q1
  ·cases hd
 ·cases hd
theorem Go5 {kd:KK} {key:AV} {b:Value} (hb:He kd key=some b) (w:World):(Instr.keyThatStays b b).run P w=.ok b w:=by
 have base:∀ {m:Nat} {kb:KB} {c:AV} {v:Value},JC kb c=some v→Instr.sameBits m v v=true:=fun {m kb c v} h=>by
  cases kb with
  | s=>
   cases c <;> simp only [JC,reduceCtorEq,sJ] at h
   subst h
   simp [Instr.sameBits,Gd2]
  | i j=>
   cases c <;> simp only [JC,reduceCtorEq] at h
   split at h
   ·cases h; simp [Instr.sameBits]
   ·cases h
 unfold Instr.keyThatStays
 have key:Instr.sameBits 10000 b b=true:=by
  cases kd with
  | s=>
   cases key <;> simp only [He,reduceCtorEq,sJ] at hb
   subst hb
   simp [Instr.sameBits,Gd2]
  | i j=>
   cases key <;> simp only [He,reduceCtorEq] at hb
   split at hb
   ·cases hb; simp [Instr.sameBits]
   ·cases hb
  | g l=>
   cases key <;> simp only [He,reduceCtorEq] at hb
   obtain ⟨vs,h1,rfl⟩:=Option.map_eq_some_iff.1 hb
   show Instr.sameBits (9999+1) _ _=true
   unfold Instr.sameBits
   simp only [BEq.rfl,Bool.true_and]
   clear hb
   rename_i cs
   induction l generalizing cs vs with
   | nil=>cases cs with
    | nil=>simp only [JV,sJ] at h1; subst h1; rfl
    | cons c cs=>cases h1
   | cons kb l ih=>
    cases cs with
    | nil=>cases h1
    | cons c cs=>
     obtain ⟨v,us,rfl,q1,q2⟩:=Ju h1
     have:=ih _ _ q2
     simp only [List.zip_cons_cons,List.all_cons,Bool.and_eq_true]
     exact ⟨base q1,this⟩
 rw [key]
 rfl
theorem GlX:∀ {l:List KB} {cs:List AV} {vs:List Value} {o:Bool},JV l cs=some vs→GQ μ ro w o cs vs
 | [],[],vs,o,h=>by simp only [JV,sJ] at h; subst h; exact GQ.nil
 | kb::l,c::cs,vs,o,h=>by
  obtain ⟨v,us,rfl,q1,q2⟩:=Ju h
  refine GQ.cons ?_ (GlX q2)
  cases kb with
  | s=>
   cases c <;> simp only [JC,reduceCtorEq,sJ] at q1
   subst q1
   exact .str (by simp)
  | i j=>
   cases c <;> simp only [JC,reduceCtorEq] at q1
   split at q1
   ·cases q1; exact .int
   ·cases q1
 | [],_::_,_,_,h=>by cases h
 | _::_,[],_,_,h=>by cases h
theorem GoQ {kd:KK} {k:AV} {b:Value} {o:Bool} (h:He kd k=some b):G1 μ ro w o k b:=by
 cases kd with
 | s=>
  cases k <;> simp only [He,reduceCtorEq,sJ] at h
  subst h
  exact .str (by simp)
 | i j=>
  cases k <;> simp only [He,reduceCtorEq] at h
  split at h
  ·cases h; exact .int
  ·cases h
 | g l=>
  cases k <;> simp only [He,reduceCtorEq] at h
  obtain ⟨vs,h1,rfl⟩:=Option.map_eq_some_iff.1 h
  exact (GlX h1).agg
theorem GlV:∀ {l:List KB} {cs:List AV} {vs us:List Value} {o:Bool},JV l cs=some vs→GQ μ ro w o cs us→us=vs
 | [],[],vs,us,o,h,hr=>by
  simp only [JV,sJ] at h; subst h
  exact List.length_eq_zero_iff.1 (by simpa using hr.1)
 | kb::l,c::cs,vs,us,o,h,hr=>by
  obtain ⟨v,vs',rfl,q1,q2⟩:=Ju h
  obtain ⟨u,us',rfl,r1,r2⟩:=hr.head
  rw [GlV q2 r2]
  congr 1
  cases kb with
  | s=>
   cases c <;> simp only [JC,reduceCtorEq,sJ] at q1
   subst q1
   cases r1 with
   | str h=>rw [← h]
  | i j=>
   cases c <;> simp only [JC,reduceCtorEq] at q1
   split at q1
   ·cases q1; cases r1; rfl
   ·cases q1
 | [],_::_,_,_,_,h,_=>by cases h
 | _::_,[],_,_,_,h,_=>by cases h
theorem Gn9 {kd:KK} {key:AV} {b b':Value} {o:Bool} (hr:G1 μ ro w o key b') (hb:He kd key=some b):b'=b:=by
 cases kd with
 | s=>
  cases key <;> simp only [He,reduceCtorEq] at hb
  simp only [sJ] at hb
  subst hb
  cases hr with
  | str h=>rw [← h]
 | i j=>
  cases key <;> simp only [He,reduceCtorEq] at hb
  split at hb
  ·simp only [sJ] at hb
   subst hb
   cases hr
   rfl
  ·cases hb
 | g l=>
  cases key <;> simp only [He,reduceCtorEq] at hb
  obtain ⟨vs,h1,rfl⟩:=Option.map_eq_some_iff.1 hb
  obtain ⟨us,rfl,hus⟩:=hr.agg_inv
  rw [GlV h1 hus]
end
noncomputable section
open Go.RowKit
variable {P:Program} {μ μ':Nat→Option HY} {ro ro':Nat→Prop} {w w':World}
def Jp:List (AV×AV)→AV→Option AV
 | [],_=>none
 | (k,v)::es,key=>match KY k key with | true=>some v | false=>Jp es key
def ZD:List (AV×AV)→AV→AV→List (AV×AV)
 | [],key,x=>[(key,x)]
 | (k,v)::es,key,x=>match KY k key with | true=>(k,x)::es | false=>(k,v)::ZD es key x
/-! ### what is found -/
theorem Gqv {kd:KK} {key:AV} {b:Value} (hb:He kd key=some b):∀ {es:List (AV×AV)} {p:List MapEntry} {v:AV},Mt kd μ ro w es p→Jp es key=some v→∃ m ∈ p,m.key=b∧G1 μ ro w false v m.val
 | [],[],v,_,h=>by cases h
 | (k,x)::es,m::p,v,.cons hk hv he,h=>by
  unfold Jp at h
  split at h
  ·rename_i hq
   cases h
   exact ⟨m,by simp,(RZ hk hb).1 hq,hv⟩
  ·obtain ⟨m',h1,h2⟩:=Gqv hb he h
   exact ⟨m',by simp [h1],h2⟩
theorem Gqu {kd:KK} {key:AV} {b:Value} (hb:He kd key=some b):∀ {es:List (AV×AV)} {p:List MapEntry},Mt kd μ ro w es p→Jp es key=none→∀ m ∈ p,m.key≠b
 | [],[],_,_,m,hm=>by cases hm
 | (k,x)::es,m::p,.cons hk hv he,h,m',hm=>by
  unfold Jp at h
  split at h
  ·cases h
  ·rename_i hq
   rcases List.mem_cons.1 hm with rfl | hm
   ·intro e
    rw [(RZ hk hb).2 e] at hq
    cases hq
   ·exact Gqu hb he h m' hm
def Rs (b:Value):List MapEntry→Nat→Option (Nat×Value)
 | [],_=>none
 | m::ms,i=>open Classical in if m.key=b then some (i,m.val) else Rs b ms (i+1)
def Gwu:TypeDesc→Option KK
 | .string=>some .s
 | .int k=>some (.i k)
 | _=>none
theorem Gyp {kd:KK} {d:TypeDesc} {a c:Value} {k key:AV} (hd:Gwu d=some kd) (ha:He kd key=some a) (hc:He kd k=some c):Instr.sameNow d a c=some (open Classical in decide (c=a)):=by
 have hiff:=RZ hc ha
 cases kd with
 | s=>
  cases d <;> simp only [Gwu,reduceCtorEq,sJ] at hd
  cases k <;> simp only [He,reduceCtorEq] at hc
  cases key <;> simp only [He,reduceCtorEq] at ha
  simp only [sJ] at ha hc
  subst ha; subst hc
  rename_i s t
  simp only [Instr.sameNow]
  have e:((⟨t.toArray⟩:ByteArray)==⟨s.toArray⟩)=decide (s=t):=by
   rw [Gd2]
   by_cases h:s=t
   ·subst h; simp
   ·have h2:¬ t=s:=fun q=>h q.symm
    simp [h,h2]
  rw [e]
  congr 1
  by_cases h:s=t
  ·simp [h]
  ·have:¬ (Value.string ⟨s.toArray⟩=Value.string ⟨t.toArray⟩):=fun q=>h (of_decide_eq_true (hiff.2 q))
   simp [h,this]
 | i j=>
  cases d <;> simp only [Gwu,reduceCtorEq,sJ,KK.i.injEq] at hd
  cases k <;> simp only [He,reduceCtorEq] at hc
  cases key <;> simp only [He,reduceCtorEq] at ha
  split at ha
  ·split at hc
   ·rename_i h1 h2
    simp only [sJ] at ha hc
    subst ha; subst hc; subst h1; subst h2
    rename_i m n
    simp only [Instr.sameNow,if_true]
    congr 1
    by_cases h:m=n
    ·subst h; simp
    ·have h2:¬ n=m:=fun q=>h q.symm
     simp [h,h2]
   ·cases hc
  ·cases ha
 | g l=>cases d <;> simp [Gwu] at hd
theorem GsQ {kd:KK} {d:TypeDesc} {key:AV} {b:Value} (hd:Gwu d=some kd) (hb:He kd key=some b):∀ (ms:List MapEntry) (i:Nat),(∀ m ∈ ms,∃ k,He kd k=some m.key)→Instr.findNow d b ms i=some (Rs b ms i)
 | [],i,_=>rfl
 | m::ms,i,h=>by
  obtain ⟨k,hk⟩:=h m (by simp)
  have hs:=Gyp hd hb hk
  unfold Instr.findNow Rs
  rw [hs]
  by_cases e:m.key=b
  ·simp [e]
  ·simp only [e,decide_false,if_false]
   exact GsQ hd hb ms (i+1) (fun m hm=>h m (by simp [hm]))
theorem Vm {b:Value}:∀ {ms:List MapEntry} {i j:Nat} {x:Value},Rs b ms i=some (j,x)→i≤j∧∃ m,ms[j - i]?=some m∧m.key=b∧x=m.val
 | [],i,j,x,h=>by cases h
 | m::ms,i,j,x,h=>by
  unfold Rs at h
  split at h
  ·rename_i e
   simp only [sJ,Prod.mk.injEq] at h
   obtain ⟨rfl,rfl⟩:=h
   exact ⟨Nat.le_refl _,m,by simp,e,rfl⟩
  ·obtain ⟨h1,m',h2,h3⟩:=Vm h
   refine ⟨by omega,m',?_,h3⟩
   rw [show j - i=(j - (i+1))+1 by omega]
   simpa using h2
theorem GhH {b:Value}:∀ {ms:List MapEntry} {i:Nat},Rs b ms i=none→∀ m ∈ ms,m.key≠b
 | [],i,_,m,hm=>by cases hm
 | m::ms,i,h,m',hm=>by
  unfold Rs at h
  split at h
  ·cases h
  ·rename_i e
   rcases List.mem_cons.1 hm with rfl | hm
   ·exact e
   ·exact GhH h m' hm
theorem Mt.keys {kd:KK}:∀ {es:List (AV×AV)} {p:List MapEntry},Mt kd μ ro w es p→∀ m ∈ p,∃ e ∈ es,He kd e.1=some m.key
 | _,_,.nil,m,hm=>by cases hm
 | _,_,.cons hk hv he,m,hm=>by
  rcases List.mem_cons.1 hm with rfl | hm
  ·exact ⟨_,List.mem_cons_self ..,hk⟩
  ·obtain ⟨e,h1,h2⟩:=he.keys m hm
   exact ⟨e,List.mem_cons_of_mem _ h1,h2⟩
theorem Mt.nodup {kd:KK}:∀ {es:List (AV×AV)} {p:List MapEntry},Mt kd μ ro w es p→(es.map (·.1)).Nodup→(p.map (·.key)).Nodup
 | _,_,.nil,_=>List.nodup_nil
 | (k,v)::es,m::p,.cons hk hv he,hn=>by
  simp only [List.map_cons,List.nodup_cons] at hn ⊢
  refine ⟨fun hm=>hn.1 ?_,he.nodup hn.2⟩
  obtain ⟨m',h1,h2⟩:=List.mem_map.1 hm
  obtain ⟨e,h3,h4⟩:=he.keys m' h1
  rw [h2] at h4
  have:=GoO ((RZ h4 hk).2 rfl)
  rw [← this]
  exact List.mem_map.2 ⟨e,h3,rfl⟩
theorem GoR {ms:List MapEntry} (hn:(ms.map (·.key)).Nodup) {i j:Nat} {m m':MapEntry} (hi:ms[i]?=some m) (hj:ms[j]?=some m') (he:m.key=m'.key):i=j:=by
 have h1:(ms.map (·.key))[i]?=some m.key:=by rw [List.getElem?_map,hi]; rfl
 have h2:(ms.map (·.key))[j]?=some m'.key:=by rw [List.getElem?_map,hj]; rfl
 obtain ⟨hil,e1⟩:=List.getElem?_eq_some_iff.1 h1
 obtain ⟨hjl,e2⟩:=List.getElem?_eq_some_iff.1 h2
 rw [List.Nodup,List.pairwise_iff_getElem] at hn
 rcases Nat.lt_trichotomy i j with h | h | h
 ·exact absurd (e1.trans (he.trans e2.symm)) (hn i j hil hjl h)
 ·exact h
 ·exact absurd (e2.trans (he.symm.trans e1.symm)) (hn j i hjl hil h)
/-! ### the operations -/
theorem Gx4 {kt:TypeId} {kd:KK} (h:kdT P kt=some kd):(∃ d,P.underlying kt=some d∧Gwu d=some kd)∨(∃ l,kd=.g l∧(match P.underlying kt with | some (.array _ _) | some (.struct _)=>true | _=>false)=true):=by
 have h0:=h
 unfold kdT at h
 split at h
 ·rename_i hu; cases h; exact .inl ⟨_,hu,rfl⟩
 ·rename_i hu; cases h; exact .inl ⟨_,hu,rfl⟩
 ·rename_i fs hu
  split at h
  ·obtain ⟨l,hl,rfl⟩:=Option.map_eq_some_iff.1 h
   exact .inr ⟨l,rfl,by rw [hu]⟩
  ·cases h
 ·rename_i n e hu
  split at h
  ·cases h; exact .inr ⟨_,rfl,by rw [hu]⟩
  ·cases h
 ·cases h
theorem Gnk {l:List KB} {kt:TypeId} {key:AV} {b:Value} (hd:kdT P kt=some (.g l)) (hb:He (.g l) key=some b) (w':World):∀ (ms:List MapEntry) (i:Nat),(∀ m ∈ ms,∃ k,He (.g l) k=some m.key)→
  (Instr.findAsking kt b ms i).run P w'=.ok (Rs b ms i) w'
 | [],i,_=>by simp [Instr.findAsking,Rs]
 | m::ms,i,h=>by
  obtain ⟨k,hk⟩:=h m (by simp)
  obtain ⟨r,h1,h2⟩:=Gzm hd hb hk w'
  unfold Instr.findAsking Rs
  simp only [Sem.run_bind,h1,Result.andThen_ok]
  by_cases e:m.key=b
  ·have hr:r=true:=h2.2 e.symm
   subst hr
   simp [e]
  ·have hr:r=false:=by cases r; rfl; exact absurd (h2.1 rfl).symm e
   subst hr
   simp only [Bool.false_eq_true,if_false,e]
   exact Gnk hd hb w' ms (i+1) (fun m hm=>h m (by simp [hm]))
theorem GaM {kd:KK} {kt:TypeId} {key:AV} {b:Value} {es:List (AV×AV)} {p ms:List MapEntry} (hd:kdT P kt=some kd) (hb:He kd key=some b) (hp:p.Perm ms) (he:Mt kd μ ro w es p) (w':World):
  (Instr.findKey kt b ms).run P w'=.ok (Rs b ms 0) w':=by
 have hks:∀ m ∈ ms,∃ k,He kd k=some m.key:=fun m hm=>by
  obtain ⟨e,h1,h2⟩:=he.keys m (hp.mem_iff.2 hm)
  exact ⟨_,h2⟩
 rcases Gx4 hd with ⟨d,hu,hd'⟩ | ⟨l,rfl,hw⟩
 ·unfold Instr.findKey
  simp only [Sem.run_bind,GB hu,Result.andThen_ok,GsQ hd' hb ms 0 hks,Sem.run_pure]
 ·rw [run_findKey_eq w' hw]
  exact Gnk hd hb w' ms 0 hks
def GvL (hn:Hu) (es:List (AV×AV)) (key:AV):W (Option AV):=
 match hn with
 | .v [v]=>(W.owe (Jp es key=some v)).bind fun _=>W.pure (some v)
 | .b _=>(W.owe (Jp es key=none)).bind fun _=>W.pure none
 | _=>W.pure (Jp es key)
theorem Gqt {hn:Hu} {es:List (AV×AV)} {key:AV}:(GvL hn es key).sat fun r=>r=Jp es key:=by
 unfold GvL
 split
 ·exact W.sat_bind W.sat_owe fun _ h=>W.sat_pure h.symm
 ·exact W.sat_bind W.sat_owe fun _ h=>W.sat_pure h.symm
 ·exact W.sat_pure rfl
def GlF (ok:Bool) (r:Option AV) (z:AV):AV:=
 match r with
 | some v=>match ok with | true=>.tup [v,.bool true] | false=>v
 | none=>match ok with | true=>.tup [z,.bool false] | false=>z
def GqX (P:Program) (hn:Hu) (t:TypeId) (x key:AV) (ok:Bool) (h:Hp):W AV:=
 match P.underlying t with
 | some (.map kt et)=>
  match (P.info? et).bind (·.zero) with
  | some z=>
   match kdT P kt with
   | some kd=>
    match (He kd key).isSome with
    | true=>
     match x with
     | .nilm=>W.pure (GlF ok none (cst z))
     | .mapr id=>
      match h.m.get id with
      | some (.map kd' es)=>match GuE kd' kd with | true=>(GvL hn es key).bind fun r=>W.pure (GlF ok r (cst z)) | false=>W.fail
      | none=>
       match h.m.get (h.nx - 1) with
       | some (.mst id' kd' es _)=>match Nat.beq id id'&&GuE kd' kd with | true=>(GvL hn es key).bind fun r=>W.pure (GlF ok r (cst z)) | false=>W.fail
       | _=>W.fail
      | _=>W.fail
     | _=>W.fail
    | false=>W.fail
   | none=>W.fail
  | _=>W.fail
 | _=>W.fail
theorem GlG {ok:Bool} {v z:AV} {x:Value} {o:Bool} (h:G1 μ ro w o v x):G1 μ ro w o (GlF ok (some v) z) (if ok then .tuple #[x,.bool true] else x):=by
 cases ok with
 | true=>exact (GQ.cons h (GQ.cons .bool GQ.nil)).tup
 | false=>exact h
theorem Gfr {ok:Bool} {z:AV} {x:Value} {o:Bool} (h:G1 μ ro w o z x):G1 μ ro w o (GlF ok none z) (if ok then .tuple #[x,.bool false] else x):=by
 cases ok with
 | true=>exact (GQ.cons h (GQ.cons .bool GQ.nil)).tup
 | false=>exact h
theorem GcW {kd:KK} {key:AV} {b:Value} {es:List (AV×AV)} {p ms:List MapEntry} (hb:He kd key=some b) (hp:p.Perm ms) (he:Mt kd μ ro w es p) (hn:(es.map (·.1)).Nodup):
  (∃ v i x,Jp es key=some v∧Rs b ms 0=some (i,x)∧G1 μ ro w false v x)∨(Jp es key=none∧Rs b ms 0=none):=by
 have hkn:(ms.map (·.key)).Nodup:=(hp.map _).nodup_iff.1 (he.nodup hn)
 cases hl:Jp es key with
 | some v=>
  obtain ⟨m,h1,h2,h3⟩:=Gqv hb he hl
  cases hf:Rs b ms 0 with
  | none=>exact absurd h2 (GhH hf m (hp.mem_iff.1 h1))
  | some q=>
   obtain ⟨i,x⟩:=q
   obtain ⟨-,m',h4,h5,rfl⟩:=Vm hf
   obtain ⟨j,hj,e⟩:=List.getElem_of_mem (hp.mem_iff.1 h1)
   have hj':ms[j]?=some m:=by rw [List.getElem?_eq_getElem hj,e]
   have:=GoR hkn hj' h4 (h2.trans h5.symm)
   rw [Nat.sub_zero] at h4 this
   subst this
   rw [hj'] at h4
   cases h4
   exact .inl ⟨v,_,_,rfl,rfl,h3⟩
 | none=>
  cases hf:Rs b ms 0 with
  | none=>exact .inr ⟨rfl,rfl⟩
  | some q=>
   obtain ⟨i,x⟩:=q
   obtain ⟨-,m',h4,h5, -⟩:=Vm hf
   exact absurd h5 (Gqu hb he hl m' (hp.mem_iff.2 (List.mem_of_getElem? h4)))
theorem Gsj {hn:Hu} {t:TypeId} {x key:AV} {a b':Value} {ok:Bool} {h:Hp} (hx:G1 μ ro w true x a) (hk:G1 μ ro w true key b') (hh:GV μ ro h w):
  (GqX P hn t x key ok h).sat fun v=>∃ v',(Instr.lookup t a b' ok).run P w=.ok v' w∧G1 μ ro w true v v':=by
 unfold GqX
 split
 ·rename_i kt et hu
  split
  ·rename_i z hz
   split
   ·rename_i kd hd
    split
    ·rename_i hsome
     obtain ⟨b,hb⟩:=Option.isSome_iff_exists.1 hsome
     have hbb:=Gn9 hk hb
     subst hbb
     have hzero:∀ w:World,(zeroValue et).run P w=.ok z w:=fun w=>by
      cases hi:P.info? et with
      | none=>rw [hi] at hz; cases hz
      | some i=>rw [hi] at hz; exact ZB hi hz w
     split
     ·cases hx
      refine W.sat_pure ⟨_,?_,Gfr (QH z)⟩
      have hf:(Instr.findKey kt b' ([]:List MapEntry)).run P w=.ok none w:=by
       exact GaM (μ:=μ) (ro:=ro) (w:=w) (es:=[]) hd hb (List.Perm.refl _) .nil w
      simp only [Instr.lookup,Sem.run_bind,GB hu,Result.andThen_ok,Sem.run_pure,Mr hd hb,hf,hzero]
     ·rename_i id
      split
      ·rename_i kd' es hm
       split
       ·rename_i hkk
        have:=GlD hkk
        subst this
        refine W.sat_bind Gqt fun r hr=>W.sat_pure ?_
        subst hr
        cases hx with
        | mapr hmu=>
         rename_i bl
         obtain ⟨ms,cl,p,g1,g2,g3,g4,g5,g6⟩:=hh.obsM id _ _ hm hmu
         have hget:(getObj bl.1).run P w=.ok (.map ms cl) w:=by simp [getObj,Sem.run,g1]
         have hfk:=GaM (P:=P) hd hb g2 g3 w
         rcases GcW hb g2 g3 g6 with ⟨v,i,x,h1,h2,h3⟩ | ⟨h1,h2⟩
         ·rw [h1]
          refine ⟨_,?_,GlG h3.up⟩
          rw [h2] at hfk
          simp only [Instr.lookup,Sem.run_bind,GB hu,Result.andThen_ok,Sem.run_pure,hget,Mr hd hb,hfk]
         ·rw [h1]
          refine ⟨_,?_,Gfr (QH z)⟩
          rw [h2] at hfk
          simp only [Instr.lookup,Sem.run_bind,GB hu,Result.andThen_ok,Sem.run_pure,hget,Mr hd hb,hfk,hzero]
       ·exact W.sat_fail
      ·split
       ·rename_i id' kd' es y hm
        split
        ·rename_i hkk
         simp only [Bool.and_eq_true] at hkk
         have hid:=Nat.eq_of_beq_eq_true hkk.1
         subst hid
         have:=GlD hkk.2
         subst this
         refine W.sat_bind Gqt fun r hr=>W.sat_pure ?_
         subst hr
         cases hx with
         | mapr hmu=>
          rename_i bl
          rcases hh.obs _ _ hm with ⟨c,hc,hob⟩ | ⟨_,hab,_⟩
          rotate_left
          ·exact hab.elim
          obtain ⟨l,ms,cl,p,m0,e1,e2,g1,g2,g3,g4,g5,g6,g7⟩:=hob
          rw [hmu] at e1; cases e1
          have hget:(getObj bl.1).run P w=.ok (.map ms cl) w:=by rw [e2]; simp [getObj,Sem.run,g1]
          have hfk:=GaM (P:=P) hd hb g2 g3 w
          rcases GcW hb g2 g3 g6 with ⟨v,i,x,h1,h2,h3⟩ | ⟨h1,h2⟩
          ·rw [h1]
           refine ⟨_,?_,GlG h3.up⟩
           rw [h2] at hfk
           simp only [Instr.lookup,Sem.run_bind,GB hu,Result.andThen_ok,Sem.run_pure,hget,Mr hd hb,hfk]
          ·rw [h1]
           refine ⟨_,?_,Gfr (QH z)⟩
           rw [h2] at hfk
           simp only [Instr.lookup,Sem.run_bind,GB hu,Result.andThen_ok,Sem.run_pure,hget,Mr hd hb,hfk,hzero]
        ·exact W.sat_fail
       ·exact W.sat_fail
      ·exact W.sat_fail
     ·exact W.sat_fail
    ·exact W.sat_fail
   ·exact W.sat_fail
  ·exact W.sat_fail
 ·exact W.sat_fail
def GkF (P:Program) (t:TypeId) (r:Option AV) (h:Hp):Option (AV×Hp):=
 match P.underlying t,r with
 | some (.map kt _),none=>match kdT P kt with | some kd=>some (.mapr h.nx,h.new (.map kd [])) | none=>none
 | _,_=>none
theorem GpE {t:TypeId} {r:Option AV} {r':Option Value} {h:Hp} {q:AV×Hp} (hq:GkF P t r h=some q) (hr:r=none→r'=none) (hh:GV μ ro h w):KZ P (Instr.makeMap t r') μ ro w h.nx q.1 q.2:=by
 unfold GkF at hq
 split at hq
 ·rename_i kt et hu
  obtain rfl:=hr rfl
  split at hq
  ·rename_i kd hkd
   simp only [sJ] at hq
   subst hq
   refine ⟨.map (some w.heap.size),w.alloc (.map #[] 0),upd μ h.nx (w.heap.size,0),?_,KJ _ _,.mapr (Ky _ _),hh.new _ _ _ ⟨#[],0,[],Gbj w _,List.Perm.refl _,.nil,fun e he=>by simp at he,by simp,by simp⟩,Fr.alloc hh _ _⟩
   simp only [Instr.makeMap,Sem.run_bind,Sem.run_pure,run_newObj,Result.andThen_ok]
   rfl
  ·cases hq
 ·cases hq
/-! ### an entry laid -/
def gUp (b x:Value) (m:MapEntry):MapEntry:=open Classical in if m.key=b then { m with val:=x } else m
theorem GlC {b x:Value} {m:MapEntry}:(gUp b x m).born=m.born:=by unfold gUp; split <;> rfl
theorem GmB {b x:Value} {m:MapEntry} (h:m.key≠b):gUp b x m=m:=by unfold gUp; rw [if_neg h]
theorem GvJ {b x:Value}:∀ {p:List MapEntry},(∀ m ∈ p,m.key≠b)→p.map (gUp b x)=p
 | [],_=>rfl
 | m::p,h=>by rw [List.map_cons,GmB (h m (by simp)),GvJ (fun m hm=>h m (by simp [hm]))]
theorem GoA {kd:KK} {key v:AV} {b x:Value} (hb:He kd key=some b) (hv:G1 μ ro w false v x):∀ {es:List (AV×AV)} {p:List MapEntry},Mt kd μ ro w es p→(es.map (·.1)).Nodup→Jp es key≠none→
  Mt kd μ ro w (ZD es key v) (p.map (gUp b x))∧(ZD es key v).map (·.1)=es.map (·.1)
 | _,_,.nil,_,h=>absurd rfl h
 | (k,y)::es,m::p,.cons hk hy he,hn,h=>by
  have hnp:=(Mt.cons hk hy he).nodup hn
  simp only [List.map_cons,List.nodup_cons] at hn hnp
  unfold Jp at h
  unfold ZD
  cases hq:KY k key with
  | true=>
   have hmb:=(RZ hk hb).1 hq
   have h2:p.map (gUp b x)=p:=GvJ fun m' hm' e=>hnp.1 (List.mem_map.2 ⟨m',hm',e.trans hmb.symm⟩)
   rw [List.map_cons,h2]
   refine ⟨.cons ?_ ?_ he,rfl⟩
   ·unfold gUp; rw [if_pos hmb]; exact hk
   ·unfold gUp; rw [if_pos hmb]; exact hv
  | false=>
   rw [hq] at h
   have hmb:m.key≠b:=fun e=>by rw [(RZ hk hb).2 e] at hq; cases hq
   obtain ⟨h1,h2⟩:=GoA hb hv he hn.2 h
   rw [List.map_cons,GmB hmb]
   refine ⟨.cons hk hy h1,?_⟩
   simp only [List.map_cons,h2]
theorem Goz {kd:KK} {key v:AV} {b x:Value} {c:Nat} (hb:He kd key=some b) (hv:G1 μ ro w false v x):∀ {es:List (AV×AV)} {p:List MapEntry},Mt kd μ ro w es p→Jp es key=none→
  Mt kd μ ro w (ZD es key v) (p++[⟨b,x,c⟩])∧(ZD es key v).map (·.1)=es.map (·.1)++[key]
 | _,_,.nil,_=>⟨.cons hb hv .nil,rfl⟩
 | (k,y)::es,m::p,.cons hk hy he,h=>by
  unfold Jp at h
  unfold ZD
  cases hq:KY k key with
  | true=>rw [hq] at h; cases h
  | false=>
   rw [hq] at h
   obtain ⟨h1,h2⟩:=Goz (c:=c) hb hv he h
   refine ⟨.cons hk hy h1,?_⟩
   simp only [List.map_cons,h2,List.cons_append]
theorem GoX {ms:List MapEntry} {b x:Value} {i:Nat} {m:MapEntry} (hn:(ms.map (·.key)).Nodup) (hi:ms[i]?=some m) (hm:m.key=b):ms.modify i (fun e=>{ e with key:=b,val:=x })=ms.map (gUp b x):=by
 apply List.ext_getElem?
 intro q
 rw [List.getElem?_modify,List.getElem?_map]
 cases hq:ms[q]? with
 | none=>rfl
 | some m'=>
  by_cases e:i=q
  ·subst e
   rw [hi] at hq
   cases hq
   simp only [Option.map_some,if_true,gUp,if_pos hm]
   show some (MapEntry.mk b x m.born)=some (MapEntry.mk m.key x m.born)
   rw [hm]
  ·have:m'.key≠b:=fun e2=>e (GoR hn hi hq (hm.trans e2.symm))
   simp only [Option.map_some,if_neg e,GmB this]
   rfl
theorem Gbk {kd:KK} {key:AV} {b:Value} (hb:He kd key=some b):∀ {es:List (AV×AV)},Jp es key=none→key ∉ es.map (·.1)
 | [],_=>by simp
 | (k,y)::es,h=>by
  unfold Jp at h
  split at h
  ·cases h
  ·rename_i hq
   simp only [List.map_cons,List.mem_cons,not_or]
   refine ⟨fun e=>?_,Gbk hb h⟩
   subst e
   rw [GuD hb] at hq
   cases hq
def Gif (P:Program) (t:TypeId) (m key x:AV) (h:Hp):Option Hp:=
 match P.underlying t,m with
 | some (.map kt _),.mapr id=>
  match kdT P kt with
  | some kd=>
   match h.m.get id,(He kd key).isSome&&x.pl with
   | some (.map kd' es),true=>match GuE kd' kd with | true=>some (h.set id (.map kd (ZD es key x))) | false=>none
   | _,_=>none
  | none=>none
 | _,_=>none
theorem Gm5 {t:TypeId} {m key x:AV} {a b' xv:Value} {h h':Hp} (hs:Gif P t m key x h=some h') (hm:G1 μ ro w true m a) (hk:G1 μ ro w true key b') (hx:G1 μ ro w true x xv) (hh:GV μ ro h w):
  ∃ w',(Instr.mapUpdate t a b' xv).run P w=.ok () w'∧GV μ ro h' w'∧Fr μ ro w μ w':=by
 unfold Gif at hs
 split at hs
 ·rename_i kt et id hu
  split at hs
  ·rename_i kd hd
   split at hs
   ·rename_i kd' es hget hc
    split at hs
    ·rename_i hkk
     have:=GlD hkk
     subst this
     simp only [sJ] at hs
     subst hs
     simp only [Bool.and_eq_true] at hc
     obtain ⟨b,hb⟩:=Option.isSome_iff_exists.1 hc.1
     have hbb:=Gn9 hk hb
     subst hbb
     have hxv:G1 μ ro w false x xv:=hx.pl hc.2
     cases hm with
     | mapr hmu=>
      rename_i bl
      obtain ⟨ms,cl,p,g1,g2,g3,g4,g5,g6⟩:=hh.obsM id _ _ hget hmu
      have hlt:=hh.lt id bl hmu
      have hgo:(getObj bl.1).run P w=.ok (.map ms cl) w:=by simp [getObj,Sem.run,g1]
      have hfk:=GaM (P:=P) hd hb g2 g3 w
      have key:∀ (ms':Array MapEntry) (cl':Nat) (es':List (AV×AV)) (p':List MapEntry),p'.Perm ms'.toList→Mt kd' μ ro w es' p'→(∀ e ∈ ms'.toList,e.born<cl')→(ms'.toList.map (·.born)).Nodup→(es'.map (·.1)).Nodup→
        (setObj bl.1 (.map ms' cl')).run P w=.ok () { w with heap:=w.heap.setIfInBounds bl.1 (.map ms' cl') }∧GV μ ro (h.set id (.map kd' es')) { w with heap:=w.heap.setIfInBounds bl.1 (.map ms' cl') }∧Fr μ ro w μ { w with heap:=w.heap.setIfInBounds bl.1 (.map ms' cl') }:=by
       intro ms' cl' es' p' q1 q2 q3 q4 q5
       have hw1:∀ j,j≠bl.1→(w.heap.setIfInBounds bl.1 (.map ms' cl'))[j]?=w.heap[j]?:=fun j hj=>by rw [Array.getElem?_setIfInBounds_ne (Ne.symm hj)]
       have hw2:(w.heap.setIfInBounds bl.1 (.map ms' cl'))[bl.1]?=some (.map ms' cl'):=by rw [Array.getElem?_setIfInBounds_self_of_lt hlt]
       have hsz:(w.heap.setIfInBounds bl.1 (.map ms' cl')).size=w.heap.size:=by simp
       have hro:∀ j,ro j→(w.heap.setIfInBounds bl.1 (.map ms' cl'))[j]?=w.heap[j]?:=fun j hj=>hw1 j (fun e=>hh.own id _ bl hget hmu (e ▸ hj))
       refine ⟨by simp [setObj,Sem.run,g1],?_,Fr.write hmu rfl rfl rfl hsz (hh.own id _ bl hget hmu) hw1⟩
       exact hh.set hget hmu (Nat.le_of_eq hsz.symm) (fun j hj _=>hw1 j hj) ⟨ms',cl',p',hw2,q1,q2.mono (fun _ _ h=>h) (fun _ h=>h) hro,q3,q4,q5⟩
      rcases GcW hb g2 g3 g6 with ⟨v,i,x0,h1,h2,h3⟩ | ⟨h1,h2⟩
      ·rw [h2] at hfk
       obtain ⟨-,m',h4,h5,rfl⟩:=Vm h2
       rw [Nat.sub_zero] at h4
       have hkn:(ms.toList.map (·.key)).Nodup:=(g2.map _).nodup_iff.1 (g3.nodup g6)
       have hmod:(ms.modify i fun e=>{ e with key:=b',val:=xv }).toList=ms.toList.map (gUp b' xv):=by
        rw [Array.toList_modify]; exact GoX hkn h4 h5
       obtain ⟨k1,k2⟩:=GoA hb hxv g3 g6 (by rw [h1]; simp)
       obtain ⟨q1,q2,q3⟩:=key (ms.modify i fun e=>{ e with key:=b',val:=xv }) cl (ZD es _ _) _ (by rw [hmod]; exact g2.map _) k1 (fun e he=>by
        rw [hmod] at he
        obtain ⟨e',he',rfl⟩:=List.mem_map.1 he
        rw [GlC]; exact g4 e' he') (by
        rw [hmod,List.map_map]
        have:((fun e:MapEntry=>e.born) ∘ gUp b' xv)=(fun e:MapEntry=>e.born):=funext fun e=>GlC
        rw [this]; exact g5) (by rw [k2]; exact g6)
       refine ⟨_,?_,q2,q3⟩
       have h4':ms[i]?=some m':=by rw [← Array.getElem?_toList]; exact h4
       simp only [Instr.mapUpdate,Sem.run_bind,GB hu,Result.andThen_ok,Sem.run_pure,hgo,Mr hd hb,hfk,h4',Option.map_some,Option.getD_some,h5,Go5 hb,q1]
      ·rw [h2] at hfk
       obtain ⟨k1,k2⟩:=Goz (c:=cl) hb hxv g3 h1
       obtain ⟨q1,q2,q3⟩:=key (ms.push ⟨b',xv,cl⟩) (cl+1) (ZD es _ _) _ (by rw [Array.toList_push]; exact g2.append_right _) k1 (fun e he=>by
        rw [Array.toList_push,List.mem_append] at he
        rcases he with he | he
        ·have:=g4 e he; omega
        ·simp at he; subst he; exact Nat.lt_succ_self _) (by
        rw [Array.toList_push,List.map_append,List.map_cons,List.map_nil,List.nodup_append]
        refine ⟨g5,by simp,fun a ha c hc e=>?_⟩
        simp at hc
        obtain ⟨e',he',rfl⟩:=List.mem_map.1 ha
        have:=g4 e' he'
        omega) (by
        rw [k2,List.nodup_append]
        refine ⟨g6,by simp,fun a ha c hc e=>?_⟩
        simp at hc
        subst hc; subst e
        exact Gbk hb h1 ha)
       refine ⟨_,?_,q2,q3⟩
       simp only [Instr.mapUpdate,Sem.run_bind,GB hu,Result.andThen_ok,Sem.run_pure,hgo,Mr hd hb,hfk,q1]
    ·cases hs
   ·cases hs
  ·cases hs
 ·cases hs
/-! ### an entry taken away -/
def Gwc:List (AV×AV)→AV→List (AV×AV)
 | [],_=>[]
 | (k,v)::es,key=>match KY k key with | true=>es | false=>(k,v)::Gwc es key
def Gov (b:Value) (p:List MapEntry):List MapEntry:=open Classical in p.filter fun m=>decide (m.key≠b)
theorem Gmi {b:Value}:∀ {p:List MapEntry},(∀ m ∈ p,m.key≠b)→Gov b p=p:=fun {p} h=>by
 unfold Gov
 rw [List.filter_eq_self]
 intro m hm
 simpa using h m hm
theorem Gmh {b:Value} {m:MapEntry} {p:List MapEntry}:Gov b (m::p)=open Classical in if m.key=b then Gov b p else m::Gov b p:=by
 unfold Gov
 by_cases h:m.key=b <;> simp [List.filter_cons,h]
theorem GsC {kd:KK} {key:AV} {b:Value} (hb:He kd key=some b):∀ {es:List (AV×AV)} {p:List MapEntry},Mt kd μ ro w es p→(es.map (·.1)).Nodup→Mt kd μ ro w (Gwc es key) (Gov b p)∧(Gwc es key).Sublist es
 | _,_,.nil,_=>⟨.nil,List.Sublist.refl _⟩
 | (k,y)::es,m::p,.cons hk hy he,hn=>by
  have hnp:=(Mt.cons hk hy he).nodup hn
  simp only [List.map_cons,List.nodup_cons] at hn hnp
  unfold Gwc
  rw [Gmh]
  cases hq:KY k key with
  | true=>
   have hmb:=(RZ hk hb).1 hq
   rw [if_pos hmb,Gmi fun m' hm' e=>hnp.1 (List.mem_map.2 ⟨m',hm',e.trans hmb.symm⟩)]
   exact ⟨he,List.sublist_cons_self _ _⟩
  | false=>
   have hmb:m.key≠b:=fun e=>by rw [(RZ hk hb).2 e] at hq; cases hq
   obtain ⟨h1,h2⟩:=GsC hb he hn.2
   rw [if_neg hmb]
   exact ⟨.cons hk hy h1,h2.cons_cons _⟩
theorem Gqc {b:Value}:∀ {ms:List MapEntry} {i:Nat} {m:MapEntry},(ms.map (·.key)).Nodup→ms[i]?=some m→m.key=b→ms.eraseIdx i=Gov b ms
 | [],i,m,_,h,_=>by simp at h
 | x::ms,0,m,hn,h,hm=>by
  simp only [List.getElem?_cons_zero,sJ] at h
  subst h
  simp only [List.map_cons,List.nodup_cons] at hn
  rw [Gmh,if_pos hm,List.eraseIdx_cons_zero,Gmi fun m' hm' e=>hn.1 (List.mem_map.2 ⟨m',hm',e.trans hm.symm⟩)]
 | x::ms,i+1,m,hn,h,hm=>by
  simp only [List.getElem?_cons_succ] at h
  simp only [List.map_cons,List.nodup_cons] at hn
  have hx:x.key≠b:=fun e=>hn.1 (List.mem_map.2 ⟨m,List.mem_of_getElem? h,hm.trans e.symm⟩)
  rw [Gmh,if_neg hx,List.eraseIdx_cons_succ,Gqc hn.2 h hm]
def Gn2 (P:Program) (t:TypeId) (m key:AV) (h:Hp):Option Hp:=
 match P.underlying t,m with
 | some (.map kt _),.mapr id=>
  match kdT P kt with
  | some kd=>
   match h.m.get id,(He kd key).isSome with
   | some (.map kd' es),true=>match GuE kd' kd with | true=>some (h.set id (.map kd (Gwc es key))) | false=>none
   | _,_=>none
  | none=>none
 | _,_=>none
theorem Gsg {ts:Array TypeId} {ty t:TypeId} {m key:AV} {a b':Value} {h h':Hp} (ht:ts[0]?=some t) (hs:Gn2 P t m key h=some h') (hm:G1 μ ro w true m a) (hk:G1 μ ro w true key b') (hh:GV μ ro h w):
  ∃ w',(Builtin.delete_ ts ty #[a,b']).run P w=.ok (.tuple #[]) w'∧GV μ ro h' w'∧Fr μ ro w μ w':=by
 unfold Gn2 at hs
 split at hs
 ·rename_i kt et id hu
  split at hs
  ·rename_i kd hd
   split at hs
   ·rename_i kd' es hget hc
    split at hs
    ·rename_i hkk
     have:=GlD hkk
     subst this
     simp only [sJ] at hs
     subst hs
     obtain ⟨b,hb⟩:=Option.isSome_iff_exists.1 hc
     have hbb:=Gn9 hk hb
     subst hbb
     cases hm with
     | mapr hmu=>
      rename_i bl
      obtain ⟨ms,cl,p,g1,g2,g3,g4,g5,g6⟩:=hh.obsM id _ _ hget hmu
      have hlt:=hh.lt id bl hmu
      have hgo:(getObj bl.1).run P w=.ok (.map ms cl) w:=by simp [getObj,Sem.run,g1]
      have hfk:=GaM (P:=P) hd hb g2 g3 w
      have hkn:(ms.toList.map (·.key)).Nodup:=(g2.map _).nodup_iff.1 (g3.nodup g6)
      obtain ⟨k1,k2⟩:=GsC hb g3 g6
      have key:∀ (ms':Array MapEntry),ms'.toList=Gov b' ms.toList→
        (setObj bl.1 (.map ms' cl)).run P w=.ok () { w with heap:=w.heap.setIfInBounds bl.1 (.map ms' cl) }∧GV μ ro (h.set id (.map kd' (Gwc es key))) { w with heap:=w.heap.setIfInBounds bl.1 (.map ms' cl) }∧Fr μ ro w μ { w with heap:=w.heap.setIfInBounds bl.1 (.map ms' cl) }:=by
       intro ms' hms
       have hw1:∀ j,j≠bl.1→(w.heap.setIfInBounds bl.1 (.map ms' cl))[j]?=w.heap[j]?:=fun j hj=>by rw [Array.getElem?_setIfInBounds_ne (Ne.symm hj)]
       have hw2:(w.heap.setIfInBounds bl.1 (.map ms' cl))[bl.1]?=some (.map ms' cl):=by rw [Array.getElem?_setIfInBounds_self_of_lt hlt]
       have hsz:(w.heap.setIfInBounds bl.1 (.map ms' cl)).size=w.heap.size:=by simp
       have hro:∀ j,ro j→(w.heap.setIfInBounds bl.1 (.map ms' cl))[j]?=w.heap[j]?:=fun j hj=>hw1 j (fun e=>hh.own id _ bl hget hmu (e ▸ hj))
       have hsub:(Gov b' ms.toList).Sublist ms.toList:=List.filter_sublist
       refine ⟨by simp [setObj,Sem.run,g1],?_,Fr.write hmu rfl rfl rfl hsz (hh.own id _ bl hget hmu) hw1⟩
       refine hh.set hget hmu (Nat.le_of_eq hsz.symm) (fun j hj _=>hw1 j hj) ⟨ms',cl,Gov b' p,hw2,?_,k1.mono (fun _ _ h=>h) (fun _ h=>h) hro,?_,?_,?_⟩
       ·rw [hms]; exact g2.filter _
       ·rw [hms]; exact fun e he=>g4 e (hsub.subset he)
       ·rw [hms]; exact (hsub.map _).nodup g5
       ·exact (k2.map _).nodup g6
      have run:∀ (ms':Array MapEntry) (o:Option (Nat×Value)),Rs b' ms.toList 0=o→(match o with | some (i,_)=>ms'=ms.eraseIdxIfInBounds i | none=>ms'=ms)→
        (Builtin.delete_ ts ty #[.map (some bl.1),b']).run P w=((setObj bl.1 (.map ms' cl)).run P w).andThen fun _ w'=>.ok (.tuple #[]) w':=by
       intro ms' o ho hm'
       rw [ho] at hfk
       unfold Builtin.delete_
       simp only [ht,List.getElem?_toArray,List.getElem?_cons_zero,List.getElem?_cons_succ,Sem.run_bind,GB hu,Result.andThen_ok,hgo,Mr hd hb,hfk]
       cases o with
       | none=>simp only at hm'; subst hm'; simp only [Sem.run_bind,Sem.run_pure]
       | some q=>obtain ⟨i,x⟩:=q; simp only at hm'; subst hm'; simp only [Sem.run_bind,Sem.run_pure]
      cases hf:Rs b' ms.toList 0 with
      | none=>
       obtain ⟨q1,q2,q3⟩:=key ms (Gmi (GhH hf)).symm
       refine ⟨_,?_,q2,q3⟩
       rw [run ms none hf rfl,q1]; rfl
      | some q=>
       obtain ⟨i,x⟩:=q
       obtain ⟨-,m',h4,h5,rfl⟩:=Vm hf
       rw [Nat.sub_zero] at h4
       obtain ⟨q1,q2,q3⟩:=key (ms.eraseIdxIfInBounds i) (by rw [Array.toList_eraseIdxIfInBounds]; exact Gqc hkn h4 h5)
       refine ⟨_,?_,q2,q3⟩
       rw [run _ (some (i,m'.val)) hf rfl,q1]; rfl
    ·cases hs
   ·cases hs
  ·cases hs
 ·cases hs
/-! ### a copy -/
def GrO (P:Program) (f:FuncId):Bool:=
 match P.funcs[f]? with
 | some fn=>fn.body.isNone&&(fn.name == "maps.clone" && (Extern.allNextRows.lookup fn.origin).isNone)
 | none=>false
def GtE (args:List AV) (h:Hp):Option (AV×Hp):=
 match args with
 | [.ifc t (.mapr id)]=>match h.m.get id with | some (.map kd es)=>some (.ifc t (.mapr h.nx),h.new (.map kd es)) | _=>none
 | _=>none
theorem GsX {f:FuncId} (h:GrO P f=true) (args:Array Value) (w:World):(callFunc f args).run P w=((Extern.MapsClone.clone args).run P w).andThen fun v w'=>.ok (.value v) w':=by
 unfold GrO at h
 split at h
 ·rename_i fn hf
  simp only [Bool.and_eq_true] at h
  obtain ⟨h1,h2,h3⟩:=h
  have hn:fn.name = "maps.clone" := by simpa using h2
  have h3':Extern.allNextRows.lookup fn.origin=none:=by simpa using h3
  refine run_callFunc_extern hf (by rw [hn]; rfl) h1 ?_ ?_ args w
  ·unfold Extern.findNext
   simp only [hn,h3']
   rfl
  ·unfold Extern.find
   simp only [hn]
   have e1:Extern.allGenericRows.lookup "maps.clone" = none:=by rfl
   have e2:Extern.allTypedRows.lookup "maps.clone" = none:=by rfl
   have e3:Extern.allRows.lookup "maps.clone" = some Extern.MapsClone.clone:=by rfl
   rw [e1,e2,e3]
   rfl
 ·cases h
theorem GtF {args:List AV} {vs:Array Value} {h:Hp} {r:AV×Hp} (hs:GtE args h=some r) (ha:GQ μ ro w true args vs.toList) (hh:GV μ ro h w):KZ P (Extern.MapsClone.clone vs) μ ro w h.nx r.1 r.2:=by
 unfold GtE at hs
 split at hs
 ·rename_i t id
  split at hs
  ·rename_i kd es hm
   simp only [sJ] at hs
   subst hs
   obtain ⟨x,rest,hv,hx,hr⟩:=ha.head
   have hn:rest=[]:=List.length_eq_zero_iff.1 (by simpa using hr.1)
   subst hn
   cases hx with
   | ifc hx=>
    rename_i y
    cases hx with
    | mapr hmu=>
     rename_i b
     obtain ⟨ms,cl,p,g1,g2,g3,g4⟩:=hh.obsM id _ _ hm hmu
     have hvs:vs=#[.iface t (.map (some b.1))]:=by
      have:=congrArg List.toArray hv
      simpa using this
     subst hvs
     refine ⟨.iface t (.map (some w.heap.size)),w.alloc (.map ms cl),upd μ h.nx (w.heap.size,0),?_,KJ _ _,.ifc (.mapr (Ky _ _)),hh.new _ _ _ ⟨ms,cl,p,Gbj w _,g2,g3.mono (Gh1 hh _) (fun _ h=>h) (fun b hb=>Below.heap_alloc _ _ _ (hh.old b hb)),g4⟩,Fr.alloc hh _ _⟩
     have e:Extern.MapsClone.clone #[.iface t (.map (some b.1))]=(getObj b.1 >>= fun o=>match o with
       | .map entries clock=>(newObj (.map entries clock) >>= fun n=>pure (.iface t (.map (some n))))
       | _=>stuck "maps.clone: a map expected"):=rfl
     have hgo:(getObj b.1).run P w=.ok (.map ms cl) w:=by simp [getObj,Sem.run,g1]
     rw [e]
     simp only [Sem.run_bind,hgo,Result.andThen_ok,run_newObj,Sem.run_pure]
     rfl
  ·cases hs
 ·cases hs
/-! ### the first place of a byte in a string (the model stands in) -/
def GxV (c:UInt8):List UInt8→Nat→Int
 | [],_ => -1
 | b::l,k=>match b==c with | true=>(k:Int) | false=>GxV c l (k+1)
theorem Gqh {c:UInt8} {f:Nat→Bool}:∀ (l:List UInt8) (k:Nat),(∀ i,i<l.length→f (k+i)=(l.getD i 0==c))→
  (match (List.range' k l.length).find? f with | some i=>(i:Int) | none => -1)=GxV c l k
 | [],k,_=>rfl
 | b::l,k,h=>by
  have h0:f k=(b==c):=by have:=h 0 (Nat.zero_lt_succ _); simpa using this
  have ih:=Gqh (c:=c) (f:=f) l (k+1) fun i hi=>by
   have:=h (i+1) (Nat.succ_lt_succ hi)
   rw [Nat.add_assoc,Nat.add_comm 1 i]
   simpa using this
  rw [List.length_cons,List.range'_succ,List.find?_cons]
  unfold GxV
  cases hb:b==c with
  | true=>rw [h0,hb]
  | false=>rw [h0,hb]; exact ih
theorem GsR {s:List UInt8} {b:ByteArray} {c:UInt8} (h:b.data.toList=s):firstIdx b c=GxV c s 0:=by
 subst h
 have hs:b.size=b.data.toList.length:=rfl
 unfold firstIdx
 rw [hs,List.range_eq_range']
 refine Gqh _ 0 fun i hi=>?_
 rw [Nat.zero_add]
 have:b[i]! = b.data.toList.getD i 0:=by
  have hi':i<b.size:=by rw [hs]; exact hi
  rw [getElem!_pos b i hi',List.getD_eq_getElem?_getD,List.getElem?_eq_getElem hi]
  rfl
 rw [this]
def Gx3 (P:Program) (f:FuncId):Bool:=
 match P.funcs[f]? with
 | some fn=>fn.body.isNone&&(fn.name == "internal/bytealg.IndexByteString" && (Extern.allNextRows.lookup fn.origin).isNone)
 | none=>false
def GqR (args:List AV):Option AV:=
 match args with
 | [.str s,.int .u8 c]=>some (.int .i64 (GxV c.toNat.toUInt8 s 0))
 | _=>none
theorem Gwt {f:FuncId} (h:Gx3 P f=true) (args:Array Value) (w:World):(callFunc f args).run P w=((Extern.BytealgIndexByte.indexByte args).run P w).andThen fun v w'=>.ok (.value v) w':=by
 unfold Gx3 at h
 split at h
 ·rename_i fn hf
  simp only [Bool.and_eq_true] at h
  obtain ⟨h1,h2,h3⟩:=h
  have hn:fn.name = "internal/bytealg.IndexByteString" := eq_of_beq h2
  have h3':Extern.allNextRows.lookup fn.origin=none:=Option.isNone_iff_eq_none.1 h3
  refine run_callFunc_extern hf (by rw [hn]; rfl) h1 ?_ ?_ args w
  ·unfold Extern.findNext
   simp only [hn,h3']
   rfl
  ·unfold Extern.find
   simp only [hn]
   have e1:Extern.allGenericRows.lookup "internal/bytealg.IndexByteString" = none:=by rfl
   have e2:Extern.allTypedRows.lookup "internal/bytealg.IndexByteString" = none:=by rfl
   have e3:Extern.allRows.lookup "internal/bytealg.IndexByteString" = some Extern.BytealgIndexByte.indexByte:=by rfl
   rw [e1,e2,e3]
   rfl
 ·cases h
theorem Gsf {args:List AV} {vs:Array Value} {r:AV} (hs:GqR args=some r) (ha:GQ μ ro w true args vs.toList):
  ∃ v,(Extern.BytealgIndexByte.indexByte vs).run P w=.ok v w∧G1 μ ro w true r v:=by
 unfold GqR at hs
 split at hs
 ·rename_i s0 n0
  simp only [sJ] at hs
  subst hs
  obtain ⟨x,rest,hv,hx,hr⟩:=ha.head
  obtain ⟨y,rest2,hv2,hy,hr2⟩:=hr.head
  have hn:rest2=[]:=List.length_eq_zero_iff.1 (by simpa using hr2.1)
  subst hn; subst hv2
  cases hx with
  | str hb=>
   rename_i b
   cases hy
   have hvs:vs=#[.string b,.int .u8 n0]:=by have:=congrArg List.toArray hv; simpa using this
   subst hvs
   exact ⟨_,run_indexByte_string _ _ w,by rw [GsR hb]; exact .int⟩
 ·cases hs
def GxN (c:UInt8):List UInt8→Nat
 | []=>0
 | x::l=>match Nat.beq x.toNat c.toNat with | true=>GxN c l+1 | false=>GxN c l
theorem Gvz (c:UInt8):∀ l:List UInt8,Go.Lib.countByte l c=GxN c l
 | []=>rfl
 | x::l=>by
  have ih:=Gvz c l
  unfold Go.Lib.countByte at ih ⊢
  unfold GxN
  rw [List.count_cons,ih]
  cases h:Nat.beq x.toNat c.toNat with
  | true=>
   have:x=c:=UInt8.toNat_inj.1 (Nat.eq_of_beq_eq_true h)
   subst this; simp
  | false=>
   have:x≠c:=fun e=>by subst e; rw [Nat.beq_refl] at h; cases h
   simp [this]
def Gx2 (P:Program) (f:FuncId):Bool:=
 match P.funcs[f]? with
 | some fn=>fn.body.isNone&&(fn.name == "internal/bytealg.CountString" && (Extern.allNextRows.lookup fn.origin).isNone)
 | none=>false
def Gof (args:List AV):Option AV:=
 match args with
 | [.str s,.int .u8 c]=>some (.int .i64 (GxN c.toNat.toUInt8 s))
 | _=>none
theorem Gws {f:FuncId} (h:Gx2 P f=true) (args:Array Value) (w:World):(callFunc f args).run P w=((Extern.BytealgCount.count args).run P w).andThen fun v w'=>.ok (.value v) w':=by
 unfold Gx2 at h
 split at h
 ·rename_i fn hf
  simp only [Bool.and_eq_true] at h
  obtain ⟨h1,h2,h3⟩:=h
  have hn:fn.name = "internal/bytealg.CountString" := eq_of_beq h2
  have h3':Extern.allNextRows.lookup fn.origin=none:=Option.isNone_iff_eq_none.1 h3
  refine run_callFunc_extern hf (by rw [hn]; rfl) h1 ?_ ?_ args w
  ·unfold Extern.findNext
   simp only [hn,h3']
   rfl
  ·unfold Extern.find
   simp only [hn]
   have e1:Extern.allGenericRows.lookup "internal/bytealg.CountString" = none:=by rfl
   have e2:Extern.allTypedRows.lookup "internal/bytealg.CountString" = none:=by rfl
   have e3:Extern.allRows.lookup "internal/bytealg.CountString" = some Extern.BytealgCount.count:=by rfl
   rw [e1,e2,e3]
   rfl
 ·cases h
theorem GqQ {args:List AV} {vs:Array Value} {r:AV} (hs:Gof args=some r) (ha:GQ μ ro w true args vs.toList):
  ∃ v,(Extern.BytealgCount.count vs).run P w=.ok v w∧G1 μ ro w true r v:=by
 unfold Gof at hs
 split at hs
 ·rename_i s0 n0
  simp only [sJ] at hs
  subst hs
  obtain ⟨x,rest,hv,hx,hr⟩:=ha.head
  obtain ⟨y,rest2,hv2,hy,hr2⟩:=hr.head
  have hn:rest2=[]:=List.length_eq_zero_iff.1 (by simpa using hr2.1)
  subst hn; subst hv2
  cases hx with
  | str hb=>
   rename_i b
   cases hy
   have hvs:vs=#[.string b,.int .u8 n0]:=by have:=congrArg List.toArray hv; simpa using this
   subst hvs
   exact ⟨_,Go.Lib.run_countString _ _ w,by rw [hb,Gvz]; exact .int⟩
 ·cases hs
def Gty (P:Program) (f:FuncId) (args:List AV):Option AV:=
 match Gx3 P f with
 | true=>GqR args
 | false=>match Gx2 P f with | true=>Gof args | false=>none
theorem Gtz {f:FuncId} {args:List AV} {vs:Array Value} {r:AV} (hs:Gty P f args=some r) (ha:GQ μ ro w true args vs.toList):
  ∃ v,(callFunc f vs).run P w=.ok (.value v) w∧G1 μ ro w true r v:=by
 unfold Gty at hs
 split at hs
 ·rename_i h
  obtain ⟨v,q1,q2⟩:=Gsf (P:=P) hs ha
  exact ⟨v,by rw [Gwt h,q1]; rfl,q2⟩
 ·split at hs
  ·rename_i h
   obtain ⟨v,q1,q2⟩:=GqQ (P:=P) hs ha
   exact ⟨v,by rw [Gws h,q1]; rfl,q2⟩
  ·cases hs
def Gie (P:Program) (t:TypeId) (x:AV) (h:Hp):Option AV:=
 match P.underlying t,x with
 | some (.map _ _),.nilm=>some (.int .i64 0)
 | some (.map _ _),.mapr id=>match h.m.get id with | some (.map _ es)=>some (.int .i64 (es.length:Int)) | _=>none
 | _,_=>none
theorem Mt.length {kd:KK}:∀ {es:List (AV×AV)} {p:List MapEntry},Mt kd μ ro w es p→p.length=es.length
 | _,_,.nil=>rfl
 | _,_,.cons _ _ h=>by simp [h.length]
theorem Gm4 {ts:Array TypeId} {ty t:TypeId} {x v:AV} {a:Value} {h:Hp} (ht:ts[0]?=some t) (hv:Gie P t x h=some v) (hx:G1 μ ro w true x a) (hh:GV μ ro h w):
  ∃ v',(Builtin.len_ ts ty #[a]).run P w=.ok v' w∧G1 μ ro w true v v':=by
 unfold Gie at hv
 split at hv
 ·rename_i hu
  simp only [sJ] at hv
  subst hv
  cases hx
  refine ⟨goInt 0,?_,.int⟩
  simp only [Builtin.len_,ht,List.getElem?_toArray,List.getElem?_cons_zero,Sem.run_bind,GB hu,Result.andThen_ok]
  rfl
 ·rename_i id hu
  split at hv
  ·rename_i kd es hm
   simp only [sJ] at hv
   subst hv
   cases hx with
   | mapr hmu=>
    rename_i bl
    obtain ⟨ms,cl,p,g1,g2,g3,g4⟩:=hh.obsM id _ _ hm hmu
    have hl:ms.size=es.length:=by rw [← g3.length,g2.length_eq,Array.length_toList]
    have hgo:(getObj bl.1).run P w=.ok (.map ms cl) w:=by simp [getObj,Sem.run,g1]
    refine ⟨goInt ms.size,?_,?_⟩
    ·simp only [Builtin.len_,ht,List.getElem?_toArray,List.getElem?_cons_zero,Sem.run_bind,GB hu,Result.andThen_ok,hgo,Sem.run_pure]
    ·rw [hl]; exact .int
  ·cases hv
 ·cases hv
/-! ### the entry an iterator stands at -/
theorem Gqj {s:Nat}:∀ {ms:List MapEntry} {i:Nat} {e:MapEntry},(ms.map (·.born)).Nodup→ms[i]?=some e→e.born=s→ms.find? (fun x=>x.born==s)=some e
 | [],i,e,_,h,_=>by simp at h
 | m::ms,0,e,_,h,hb=>by simp only [List.getElem?_cons_zero,sJ] at h; subst h; simp [hb]
 | m::ms,i+1,e,hn,h,hb=>by
  simp only [List.map_cons,List.nodup_cons] at hn
  simp only [List.getElem?_cons_succ] at h
  have hne:¬ m.born=s:=fun q=>hn.1 (by rw [q,← hb]; exact List.mem_map.2 ⟨e,List.mem_of_getElem? h,rfl⟩)
  rw [List.find?_cons_of_neg (by simpa using hne)]
  exact Gqj hn.2 h hb
theorem Mt.at {kd:KK}:∀ {es:List (AV×AV)} {ms:List MapEntry} {i:Nat} {k v:AV} {e:MapEntry},Mt kd μ ro w es ms→es[i]?=some (k,v)→ms[i]?=some e→He kd k=some e.key∧G1 μ ro w false v e.val
 | _,_,i,_,_,_,.nil,h,_=>by simp at h
 | _,_,0,_,_,_,.cons hk hv _,h,h'=>by simp only [List.getElem?_cons_zero,sJ] at h h'; cases h; cases h'; exact ⟨hk,hv⟩
 | _,_,i+1,_,_,_,.cons _ _ he,h,h'=>he.at (by simpa using h) (by simpa using h')
def GpZ (es:List (AV×AV)) (ms:List MapEntry) (seen:List Nat) (k v:AV):Prop:=
 ∃ (i:Nat) (e:MapEntry),ms[i]?=some e∧es[i]?=some (k,v)∧seen.getLast?=some e.born
def GtG (hn:Hu) (x:AV) (h:Hp):W AV:=
 match x,hn with
 | .ptr id 0,.v [.mapr mid,k,v]=>
  match h.m.get id,h.m.get mid with
  | some (.mit m _ seen cl),some (.rm m' _ es ms cl')=>(W.owe (m=m'∧cl=cl'∧GpZ es ms seen k v)).bind fun _=>W.pure (.tup [k,v])
  | _,_=>W.fail
 | _,_=>W.fail
theorem GtH {hn:Hu} {x:AV} {a:Value} {h:Hp} (hx:G1 μ ro w true x a) (hh:GV μ ro h w):(GtG hn x h).sat fun v=>∃ v',(Instr.entry a).run P w=.ok v' w∧G1 μ ro w true v v':=by
 unfold GtG
 split
 ·rename_i id mid k v
  split
  ·rename_i m since seen cl m' kd es ms cl' hi hm
   refine W.sat_bind W.sat_owe fun _ ⟨e1,e2,i,e,h1,h2,h3⟩=>W.sat_pure ?_
   subst e1; subst e2
   cases hx with
   | ptr hb=>
    rename_i b
    have hit:w.heap[b.1]?=some (.mapIter (some m) since seen.toArray cl):=hh.obsM id _ _ hi hb
    obtain ⟨bm,hbm,g⟩:∃ bm,μ mid=some bm∧Gm3 μ ro w bm m kd es ms cl:=by
     rcases hh.obs mid _ hm with h | ⟨_,h,_⟩
     ·exact h
     ·exact h.elim
    obtain ⟨g0,g1,g2,g3,g4,g5⟩:=g
    rw [g0] at g1
    have hg1:(getObj b.1).run P w=.ok (.mapIter (some m) since seen.toArray cl) w:=by simp [getObj,Sem.run,hit]
    have hg2:(getObj m).run P w=.ok (.map ms.toArray cl) w:=by simp [getObj,Sem.run,g1]
    obtain ⟨q1,q2⟩:=g2.at h2 h1
    have hbk:seen.toArray.back?=some e.born:=by simpa [Array.back?,List.getLast?_eq_getElem?] using h3
    have hf:ms.toArray.find? (fun x=>x.born==e.born)=some e:=by
     rw [List.find?_toArray]; exact Gqj g4 h1 rfl
    refine ⟨.tuple #[e.key,e.val],?_,(GQ.cons (GoQ q1) (GQ.cons q2.up GQ.nil)).tup⟩
    simp only [Instr.entry,Sem.run_bind,hg1,hg2,Result.andThen_ok,hbk,hf,bne_self_eq_false,if_false,Bool.false_eq_true,Sem.run_pure]
  ·exact W.sat_fail
 ·exact W.sat_fail
end
noncomputable section
open Go.RowKit
variable {P:Program} {G:Nat→AV} {μ μ':Nat→Option HY} {ro ro':Nat→Prop} {w w':World}
def Gid (P:Program) (t:TypeId) (m key:AV) (h:Hp):Option (AV×Hp):=
 match P.underlying t,m with
 | some (.map kt et),.mapr id=>
  match (P.info? et).bind (·.zero),kdT P kt with
  | some z,some kd=>
   match h.m.get id,(He kd key).isSome&&(cst z).pl with
   | some (.map kd' es),true=>
    match GuE kd' kd with
    | true=>
     match Jp es key with
     | some x=>some (.tup [x,.stp h.nx],(h.del id).new (.mst id kd es key))
     | none=>some (.tup [cst z,.stp h.nx],(h.del id).new (.mst id kd (ZD es key (cst z)) key))
    | false=>none
   | _,_=>none
  | _,_=>none
 | _,_=>none
theorem Gs5 {α:Type} {ms:Array α} {i:Nat} {m:α} {f:α→α} (hi:ms[i]?=some m) (hf:f m=m):ms.modify i f=ms:=by
 apply Array.ext_getElem?
 intro q
 rw [Array.getElem?_modify]
 split
 ·rename_i e
  subst e
  rw [hi,Option.map_some,hf]
 ·rfl
theorem Gol {t:TypeId} {m key:AV} {a b':Value} {h:Hp} {r:AV×Hp} (hs:Gid P t m key h=some r) (hm:G1 μ ro w true m a) (hk:G1 μ ro w true key b') (hh:GV μ ro h w):
  KZ P (Instr.mapEntry t a b') μ ro w h.nx r.1 r.2:=by
 unfold Gid at hs
 split at hs
 ·rename_i kt et id hu
  split at hs
  ·rename_i z kd hz hd
   split at hs
   ·rename_i kd' es hget hc
    split at hs
    ·rename_i hkk
     have:=GlD hkk
     subst this
     simp only [Bool.and_eq_true] at hc
     obtain ⟨b,hb⟩:=Option.isSome_iff_exists.1 hc.1
     have hbb:=Gn9 hk hb
     subst hbb
     have hzero:∀ w:World,(zeroValue et).run P w=.ok z w:=fun w=>by
      cases hi:P.info? et with
      | none=>rw [hi] at hz; cases hz
      | some i=>rw [hi] at hz; exact ZB hi hz w
     have hzr:G1 μ ro w false (cst z) z:=(QH z:G1 μ ro w true (cst z) z).pl hc.2
     cases hm with
     | mapr hmu=>
      rename_i bl
      obtain ⟨ms,cl,p,g1,g2,g3,g4,g5,g6⟩:=hh.obsM id _ _ hget hmu
      have hlt:=hh.lt id bl hmu
      have hgo:(getObj bl.1).run P w=.ok (.map ms cl) w:=by simp [getObj,Sem.run,g1]
      have hfk:=GaM (P:=P) hd hb g2 g3 w
      have hown:=hh.own id _ bl hget hmu
      have hdel:=hh.del id
      have key:∀ (ms':Array MapEntry) (cl':Nat) (es':List (AV×AV)) (p':List MapEntry) (m0:MapEntry),p'.Perm ms'.toList→Mt kd' μ ro w es' p'→(∀ e ∈ ms'.toList,e.born<cl')→(ms'.toList.map (·.born)).Nodup→(es'.map (·.1)).Nodup→m0 ∈ ms'.toList→m0.key=b'→
        (setObj bl.1 (.map ms' cl')).run P w=.ok () { w with heap:=w.heap.setIfInBounds bl.1 (.map ms' cl') }∧GV (upd μ h.nx (bl.1,m0.born)) ro ((h.del id).new (.mst id kd' es' key)) { w with heap:=w.heap.setIfInBounds bl.1 (.map ms' cl') }∧Fr μ ro w (upd μ h.nx (bl.1,m0.born)) { w with heap:=w.heap.setIfInBounds bl.1 (.map ms' cl') }:=by
       intro ms' cl' es' p' m0 q1 q2 q3 q4 q5 q6 q7
       have hw1:∀ j,j≠bl.1→(w.heap.setIfInBounds bl.1 (.map ms' cl'))[j]?=w.heap[j]?:=fun j hj=>by rw [Array.getElem?_setIfInBounds_ne (Ne.symm hj)]
       have hw2:(w.heap.setIfInBounds bl.1 (.map ms' cl'))[bl.1]?=some (.map ms' cl'):=by rw [Array.getElem?_setIfInBounds_self_of_lt hlt]
       have hsz:(w.heap.setIfInBounds bl.1 (.map ms' cl')).size=w.heap.size:=by simp
       have hro:∀ j,ro j→(w.heap.setIfInBounds bl.1 (.map ms' cl'))[j]?=w.heap[j]?:=fun j hj=>hw1 j (fun e=>hown (e ▸ hj))
       have hle:=Gh1 hdel (bl.1,m0.born)
       refine ⟨by simp [setObj,Sem.run,g1],?_,⟨rfl,rfl,rfl,Nat.le_of_eq hsz.symm,hro,fun c _ hn=>hw1 c (fun e=>hn id bl hmu e.symm),fun i l hi=>?_⟩⟩
       ·refine hdel.add (.mst id kd' es' key) (bl.1,m0.born) (Nat.le_of_eq hsz.symm) (by simpa using hlt) (fun i k' c hi hc e=>?_) hown (fun j hj _=>hw1 j hj) ⟨bl,ms',cl',p',m0,hle _ _ hmu,rfl,hw2,q1,q2.mono hle (fun _ h=>h) hro,q3,q4,q5,q6,rfl,by rw [q7]; exact hb⟩
        simp only [Hp.del,Tr.get_put] at hi
        split at hi
        ·cases hi
        ·rename_i hne
         exact hne (hh.inj i id k' _ c bl hi hget hc hmu e)
       ·unfold upd at hi
        split at hi
        ·simp only [sJ] at hi; subst hi; exact .inl ⟨id,bl,hmu,rfl⟩
        ·exact .inl ⟨i,l,hi,rfl⟩
      rcases GcW hb g2 g3 g6 with ⟨v,i,x0,h1,h2,h3⟩ | ⟨h1,h2⟩
      ·rw [h1] at hs
       simp only [sJ] at hs
       subst hs
       rw [h2] at hfk
       obtain ⟨-,m',h4,h5,rfl⟩:=Vm h2
       rw [Nat.sub_zero] at h4
       have h4':ms[i]?=some m':=by rw [← Array.getElem?_toList]; exact h4
       have hmod:(ms.modify i fun e=>{ e with key:=b' })=ms:=Gs5 h4' (by rw [← h5])
       obtain ⟨q1,q2,q3⟩:=key ms cl es p m' g2 g3 g4 g5 g6 (List.mem_of_getElem? h4) h5
       refine ⟨.tuple #[m'.val,goInt m'.born],_,_,?_,KJ _ _,?_,q2,q3⟩
       ·simp only [Instr.mapEntry,Sem.run_bind,GB hu,Result.andThen_ok,Sem.run_pure,hgo,Mr hd hb,hfk,h4',Option.map_some,Option.getD_some,h5,Go5 hb,hmod,q1]
       ·have hro:=q3.block
        exact (GQ.cons ((h3.mono (Gh1 hdel _) (fun _ h=>h) hro).up) (GQ.cons (.stp (Ky _ _)) GQ.nil)).tup
      ·rw [h1] at hs
       simp only [sJ] at hs
       subst hs
       rw [h2] at hfk
       obtain ⟨k1,k2⟩:=Goz (c:=cl) hb hzr g3 h1
       obtain ⟨q1,q2,q3⟩:=key (ms.push ⟨b',z,cl⟩) (cl+1) (ZD es _ _) _ ⟨b',z,cl⟩ (by rw [Array.toList_push]; exact g2.append_right _) k1 (fun e he=>by
        rw [Array.toList_push,List.mem_append] at he
        rcases he with he | he
        ·have:=g4 e he; omega
        ·simp at he; subst he; exact Nat.lt_succ_self _) (by
        rw [Array.toList_push,List.map_append,List.map_cons,List.map_nil,List.nodup_append]
        refine ⟨g5,by simp,fun a ha c hc e=>?_⟩
        simp at hc
        obtain ⟨e',he',rfl⟩:=List.mem_map.1 ha
        have:=g4 e' he'
        omega) (by
        rw [k2,List.nodup_append]
        refine ⟨g6,by simp,fun a ha c hc e=>?_⟩
        simp at hc
        subst hc; subst e
        exact Gbk hb h1 ha) (by simp) rfl
       refine ⟨.tuple #[z,goInt cl],_,_,?_,KJ _ _,?_,q2,q3⟩
       ·simp only [Instr.mapEntry,Sem.run_bind,GB hu,Result.andThen_ok,Sem.run_pure,hgo,Mr hd hb,hfk,hzero,q1]
       ·exact (GQ.cons (QH z) (GQ.cons (.stp (Ky _ _)) GQ.nil)).tup
    ·cases hs
   ·cases hs
  ·cases hs
 ·cases hs
def Gci (m s x:AV) (h:Hp):Option Hp:=
 match m,s with
 | .mapr id,.stp q=>
  match h.m.get q with
  | some (.mst id' kd es key)=>
   match Nat.beq id id'&&((He kd key).isSome&&(x.pl&&(Jp es key).isSome)) with
   | true=>some ⟨(h.m.put q none).put id (some (.map kd (ZD es key x))),h.nx⟩
   | false=>none
  | _=>none
 | _,_=>none
theorem GV.back {h:Hp} (hh:GV μ ro h w) {q id:Nat} {b l:HY} {k k':Ob} (hq:h.m.get q=some k) (hb:μ q=some b) (hl:μ id=some l) (he:l.1=b.1) (hs:w'.heap.size=w.heap.size)
  (hw:∀ j,j≠b.1→w'.heap[j]?=w.heap[j]?) (hk:Ve μ ro w' l k'):GV μ ro ⟨(h.m.put q none).put id (some k'),h.nx⟩ w':=by
 have hro:∀ j,ro j→w'.heap[j]?=w.heap[j]?:=fun j hj=>hw j (fun e=>hh.own q k b hq hb (e ▸ hj))
 have hin:∀ j o,((h.m.put q none).put id (some k')).get j=some o→(j=id∧o=k')∨(j≠id∧j≠q∧h.m.get j=some o):=fun j o hj=>by
  simp only [Tr.get_put] at hj
  by_cases e:j=id
  ·rw [if_pos e] at hj; simp only [sJ] at hj; exact .inl ⟨e,hj.symm⟩
  ·rw [if_neg e] at hj
   by_cases e2:j=q
   ·rw [if_pos e2] at hj; cases hj
   ·rw [if_neg e2] at hj; exact .inr ⟨e,e2,hj⟩
 refine ⟨fun j o hj=>?_,fun i j o o' c d hi hj h1 h2 h3=>?_,fun j o c hj hc=>?_,fun j c hc=>by rw [hs]; exact hh.lt j c hc,fun c hc=>by rw [hs]; exact hh.old c hc,hh.nx⟩
 ·rcases hin j o hj with ⟨rfl,rfl⟩ | ⟨e1,e2,hj⟩
  ·exact .inl ⟨l,hl,hk⟩
  ·exact (hh.obs j o hj).imp_left fun ⟨c,hc,hob⟩=>⟨c,hc,hob.mono (fun _ _ h=>h) (fun _ h=>h) hro (hw c.1 fun e=>e2 (hh.inj j q o k c b hj hq hc hb e))⟩
 ·rcases hin i o hi with ⟨a1,a2⟩ | ⟨e1,e2,hi2⟩ <;> rcases hin j o' hj with ⟨a3,a4⟩ | ⟨e3,e4,hj2⟩
  ·rw [a1,a3]
  ·rw [a1,hl] at h1; cases h1
   exact absurd (hh.inj j q o' k d b hj2 hq h2 hb (h3.symm.trans he)) e4
  ·rw [a3,hl] at h2; cases h2
   exact absurd (hh.inj i q o k c b hi2 hq h1 hb (h3.trans he)) e2
  ·exact hh.inj i j o o' c d hi2 hj2 h1 h2 h3
 ·rcases hin j o hj with ⟨rfl,rfl⟩ | ⟨e1,e2,hj⟩
  ·rw [hl] at hc; cases hc
   rw [he]; exact hh.own q k b hq hb
  ·exact hh.own j o c hj hc
theorem Gm8:∀ {ms:List MapEntry} {i j:Nat} {m m':MapEntry},(ms.map (·.born)).Nodup→ms[i]?=some m→ms[j]?=some m'→m.born=m'.born→i=j
 | [],i,j,m,m',_,h,_,_=>by simp at h
 | x::ms,0,0,m,m',_,_,_,_=>rfl
 | x::ms,0,j+1,m,m',hn,h,h',e=>by
  simp only [List.getElem?_cons_zero,sJ] at h
  simp only [List.getElem?_cons_succ] at h'
  simp only [List.map_cons,List.nodup_cons] at hn
  subst h
  exact absurd (List.mem_map.2 ⟨m',List.mem_of_getElem? h',e.symm⟩) hn.1
 | x::ms,i+1,0,m,m',hn,h,h',e=>by
  simp only [List.getElem?_cons_zero,sJ] at h'
  simp only [List.getElem?_cons_succ] at h
  simp only [List.map_cons,List.nodup_cons] at hn
  subst h'
  exact absurd (List.mem_map.2 ⟨m,List.mem_of_getElem? h,e⟩) hn.1
 | x::ms,i+1,j+1,m,m',hn,h,h',e=>by
  simp only [List.getElem?_cons_succ] at h h'
  simp only [List.map_cons,List.nodup_cons] at hn
  rw [Gm8 hn.2 h h' e]
theorem GnB {t:TypeId} {m s x:AV} {a b' xv:Value} {h h':Hp} (hs:Gci m s x h=some h') (hm:G1 μ ro w true m a) (hk:G1 μ ro w true s b') (hx:G1 μ ro w true x xv) (hh:GV μ ro h w):
  ∃ w',(Instr.entryStore t a b' xv).run P w=.ok () w'∧GV μ ro h' w'∧Fr μ ro w μ w':=by
 unfold Gci at hs
 split at hs
 ·rename_i id q
  split at hs
  ·rename_i id' kd es key hq
   split at hs
   ·rename_i hc
    simp only [Bool.and_eq_true] at hc
    simp only [sJ] at hs
    subst hs
    obtain ⟨hid,hc1,hc2,hc3⟩:=hc
    have hid:=Nat.eq_of_beq_eq_true hid
    subst hid
    obtain ⟨b,hb⟩:=Option.isSome_iff_exists.1 hc1
    have hxv:G1 μ ro w false x xv:=hx.pl hc2
    cases hm with
    | @mapr _ l0 hl0=>
    cases hk with
    | @stp _ c hcq=>
    obtain ⟨l,ms,cl,p,m0,h1,h2,h3,h4,h5,h6,h7,h8,h9,h10,h11⟩:=hh.obsM q _ c hq hcq
    rw [hl0] at h1; cases h1
    rw [hb] at h11; cases h11
    have hlt:=hh.lt q c hcq
    have hgo:(getObj l0.1).run P w=.ok (.map ms cl) w:=by rw [h2]; simp [getObj,Sem.run,h3]
    have hkn:(ms.toList.map (·.key)).Nodup:=(h4.map _).nodup_iff.1 (h5.nodup h8)
    obtain ⟨i,hi,hfi⟩:∃ i,ms[i]?=some m0∧ms.findIdx? (fun e=>(e.born:Int)==(c.2:Int))=some i:=by
     cases hf:ms.findIdx? (fun e=>(e.born:Int)==(c.2:Int)) with
     | none=>
      rw [Array.findIdx?_eq_none_iff] at hf
      have:=hf m0 (by simpa using h9)
      rw [h10] at this
      simp at this
     | some i=>
      rw [Array.findIdx?_eq_some_iff_getElem] at hf
      obtain ⟨hlti,hp,_⟩:=hf
      refine ⟨i,?_,rfl⟩
      have hbi:ms[i].born=m0.born:=by
       have:((ms[i].born:Nat):Int)=(c.2:Int):=by simpa using hp
       omega
      obtain ⟨j,hj,e⟩:=List.getElem_of_mem h9
      have hij:i=j:=by
       exact Gm8 h7 (by rw [Array.getElem?_toList]; exact Array.getElem?_eq_getElem hlti) (by rw [List.getElem?_eq_getElem hj,e]) hbi
      subst hij
      rw [Array.getElem?_eq_getElem hlti]
      simpa using e
    have hmod:(ms.modify i fun e=>{ e with val:=xv }).toList=ms.toList.map (gUp m0.key xv):=by
     rw [Array.toList_modify,← GoX (x:=xv) hkn (by rw [Array.getElem?_toList]; exact hi) rfl]
     apply List.ext_getElem?
     intro r
     rw [List.getElem?_modify,List.getElem?_modify]
     by_cases e:i=r
     ·subst e
      rw [Array.getElem?_toList,hi]
      simp
     ·simp [e]
    obtain ⟨k1,k2⟩:=GoA hb hxv h5 h8 (by intro e; rw [e] at hc3; cases hc3)
    obtain ⟨ms',hms'⟩:∃ ms',(ms.modify i fun e=>{ e with val:=xv })=ms':=⟨_,rfl⟩
    rw [hms'] at hmod
    have hw1:∀ j,j≠c.1→(w.heap.setIfInBounds l0.1 (.map ms' cl))[j]?=w.heap[j]?:=fun j hj=>by rw [h2,Array.getElem?_setIfInBounds_ne (Ne.symm hj)]
    have hw2:(w.heap.setIfInBounds l0.1 (.map ms' cl))[l0.1]?=some (.map ms' cl):=by rw [h2,Array.getElem?_setIfInBounds_self_of_lt hlt]
    have hsz:(w.heap.setIfInBounds l0.1 (.map ms' cl)).size=w.heap.size:=by simp
    have hown:=hh.own q _ c hq hcq
    have hro:∀ j,ro j→(w.heap.setIfInBounds l0.1 (.map ms' cl))[j]?=w.heap[j]?:=fun j hj=>hw1 j (fun e=>hown (e ▸ hj))
    refine ⟨{ w with heap:=w.heap.setIfInBounds l0.1 (.map ms' cl) },?_,?_,Fr.write hcq rfl rfl rfl hsz hown hw1⟩
    ·have hset:(setObj l0.1 (.map ms' cl)).run P w=.ok () { w with heap:=w.heap.setIfInBounds l0.1 (.map ms' cl) }:=by
      have:w.heap[l0.1]?=some (.map ms cl):=by rw [h2]; exact h3
      simp [setObj,Sem.run,this]
     simp only [Instr.entryStore,Sem.run_bind,hgo,Result.andThen_ok,asInt,asIntOf,Sem.run_pure,hfi,hms',hset]
    ·refine hh.back hq hcq hl0 h2 hsz hw1 ⟨ms',cl,_,hw2,by rw [hmod]; exact h4.map _,k1.mono (fun _ _ h=>h) (fun _ h=>h) hro,fun e he=>?_,?_,by rw [k2]; exact h8⟩
     ·rw [hmod] at he
      obtain ⟨e',he',rfl⟩:=List.mem_map.1 he
      rw [GlC]; exact h6 e' he'
     ·rw [hmod,List.map_map]
      have:((fun e:MapEntry=>e.born) ∘ gUp m0.key xv)=(fun e:MapEntry=>e.born):=funext fun e=>GlC
      rw [this]; exact h7
   ·cases hs
  ·cases hs
 ·cases hs
end
noncomputable section
open Go.RowKit
variable {P:Program} {μ μ':Nat→Option HY} {ro ro':Nat→Prop} {w w':World}
inductive OR where
 | val (v:AV) (h:Hp)
 | skip (h:Hp)
 | call (f:FuncId) (args:List AV)
 | dfr (f:FuncId) (args:List AV)
 | pan (v:AV)
def Gxd (μ:Nat→Option HY) (ro:Nat→Prop) (w:World) (f:FuncId) (args:List AV) (d:Deferred):Prop:=
 ∃ cap vs:Array Value,d=⟨.fn (.func f) cap,vs⟩∧GQ μ ro w true args (vs++cap).toList
def H0 (P:Program) (μ:Nat→Option HY) (ro:Nat→Prop) (w:World) (n:Nat) (s:Sem Next):OR→Prop
 | .val v h'=>∃ v' w' μ',s.run P w=.ok (.value v') w'∧VG n μ μ'∧G1 μ' ro w' true v v'∧GV μ' ro h' w'∧Fr μ ro w μ' w'
 | .skip h'=>∃ w',s.run P w=.ok .skip w'∧GV μ ro h' w'∧Fr μ ro w μ w'
 | .call f args=>∃ vs:Array Value,s.run P w=.ok (.enter f vs) w∧GQ μ ro w true args vs.toList
 | .dfr f args=>∃ d,s.run P w=.ok (.defer d) w∧Gxd μ ro w f args d
 | .pan v=>∃ v',s.run P w=.halt (.panic v') w∧G1 μ ro w true v v'
theorem H0.of_good {s:Sem Value} {r:AV×Hp} {n:Nat} (h:KZ P s μ ro w n r.1 r.2):H0 P μ ro w n (do pure (.value (← s))) (.val r.1 r.2):=by
 obtain ⟨v',w',μ',h1,h2⟩:=h
 exact ⟨v',w',μ',by simp [h1,Result.andThen],h2⟩
theorem H0.of_pure {s:Sem Value} {v:AV} {h:Hp} (hs:∃ v',(∀ w,s.run P w=.ok v' w)∧G1 μ ro w true v v') (hh:GV μ ro h w):H0 P μ ro w h.nx (do pure (.value (← s))) (.val v h):=by
 obtain ⟨v',h1,h2⟩:=hs
 exact ⟨v',w,μ,by simp [h1,Result.andThen],.refl _ _,h2,hh,Fr.refl _ _ _⟩
theorem H0.of_here {s:Sem Value} {v:AV} {h:Hp} (hs:∃ v',s.run P w=.ok v' w∧G1 μ ro w true v v') (hh:GV μ ro h w):H0 P μ ro w h.nx (do pure (.value (← s))) (.val v h):=by
 obtain ⟨v',h1,h2⟩:=hs
 exact ⟨v',w,μ,by simp [h1,Result.andThen],.refl _ _,h2,hh,Fr.refl _ _ _⟩
theorem GkE.here {s:Sem Value} {v:AV} (h:GkE P s v) (μ:Nat→Option HY) (ro:Nat→Prop) (w:World):∃ v',(∀ w,s.run P w=.ok v' w)∧G1 μ ro w true v v':=
 let ⟨v',h1,h2⟩:=h; ⟨v',h1,h2 _ _ _ _⟩
def GzQ (x:AV):Option AV:=
 match x with
 | .ptr _ _ | .rop _ _ | .ifc _ _=>some x
 | .fn (.func _) _ _=>some x
 | _=>none
def Ggl (P:Program) (f:FuncId):Bool:=
 match P.funcs[f]? with
 | some fn=>fn.body.isSome&&!(fn.name == "runtime.NumGoroutine")
 | none=>false
theorem GkL {f:FuncId} (h:Ggl P f=true) (args:Array Value) (w:World):(callFunc f args).run P w=.ok (.enter f args) w:=by
 unfold Ggl at h
 split at h
 ·rename_i fn hf
  simp only [Bool.and_eq_true,Bool.not_eq_true'] at h
  obtain ⟨c,hc⟩:=Option.isSome_iff_exists.1 h.1
  have h2:(fn.name == "runtime.NumGoroutine")=false:=h.2
  simp only [callFunc,Sem.run_bind,run_program,Result.andThen_ok,hf,h2,hc,Option.isNone_some,Bool.false_eq_true,if_false,Sem.run_pure]
 ·cases h
def GzG (P:Program) (f:AV) (args:List AV):Option OR:=
 match f with
 | .fn (.func g) first cap=>match Ggl P g with | true=>some (.call g (first++args++cap)) | false=>none
 | _=>none
def aExt (P:Program) (f:AV) (args:List AV) (h:Hp):Option (AV×Hp):=
 match f with
 | .fn (.func g) [] []=>match GrO P g with | true=>GtE args h | false=>(match Gty P g args with | some v=>some (v,h) | none=>none)
 | _=>none
def Gse (P:Program) (hn:Hu) (b:Builtin) (ts:Array TypeId) (args:List AV) (h:Hp):W OR:=
 match b,args with
 | .append,[s,x]=>(GqM P hn ts s x h).bind fun r=>W.pure (.val r.1 r.2)
 | .copy,[s,x]=>(Gxk P hn ts s x h).bind fun r=>W.pure (.val r.1 r.2)
 | .len,[.mapr id]=>(W.of (match ts[0]? with | some t=>Gie P t (.mapr id) h | none=>none)).bind fun v=>W.pure (.val v h)
 | .len,[.nilm]=>(W.of (match ts[0]? with | some t=>Gie P t .nilm h | none=>none)).bind fun v=>W.pure (.val v h)
 | .len,[x]=>(W.of (GyJ P ts x)).bind fun v=>W.pure (.val v h)
 | .cap,[x]=>(W.of (GyG P ts x)).bind fun v=>W.pure (.val v h)
 | .min,[x,y]=>(GzP hn x y).bind fun v=>W.pure (.val v h)
 | .max,[x,y]=>(GzO hn x y).bind fun v=>W.pure (.val v h)
 | .min,[x,y,z]=>(Gxp hn x y z).bind fun v=>W.pure (.val v h)
 | .max,[x,y,z]=>(Gxn hn x y z).bind fun v=>W.pure (.val v h)
 | .clear,[s]=>(GtC P hn ts s h).bind fun r=>W.pure (.val r.1 r.2)
 | .panic,[.ifc t v]=>W.pure (.pan (.ifc t v))
 | .delete,[m,k]=>(W.of (match ts[0]? with | some t=>Gn2 P t m k h | none=>none)).bind fun h'=>W.pure (.val (.tup []) h')
 | _,_=>W.fail
def Gn0 (P:Program) (x:AV) (ast:TypeId) (ok:Bool):Option AV:=
 match P.underlying ast with
 | some (.interface _)=>none
 | some _=>
  match x with
  | .ifc t v=>
   match decide (t=ast),ok with
   | true,true=>some (.tup [v,.bool true])
   | true,false=>some v
   | false,true=>(match P.info? ast with | some i=>(match i.zero with | some z=>some (.tup [cst z,.bool false]) | none=>none) | none=>none)
   | false,false=>none
  | .nili=>
   match ok,P.info? ast with
   | true,some i=>(match i.zero with | some z=>some (.tup [cst z,.bool false]) | none=>none)
   | _,_=>none
  | _=>none
 | none=>none
theorem Gsd {x v:AV} {a:Value} {xt ast:TypeId} {ok:Bool} (h:Gn0 P x ast ok=some v) (hx:G1 μ ro w true x a):
  ∃ v',(∀ w,(Instr.typeAssert a xt ast ok).run P w=.ok v' w)∧G1 μ ro w true v v':=by
 unfold Gn0 at h
 split at h
 ·cases h
 ·rename_i d hne hu
  split at h
  ·rename_i t v0
   cases hx with
   | ifc hv=>
    rename_i x0
    split at h
    ·rename_i he
     simp only [sJ] at h
     subst h
     have he':=of_decide_eq_true he
     refine ⟨.tuple #[x0,.bool true],fun w=>?_,(GQ.cons hv (GQ.cons .bool GQ.nil)).tup⟩
     simp only [Instr.typeAssert,Sem.run_bind,GB hu,Result.andThen_ok]
     cases d <;> first | (simp [he'] ; done) | exact absurd rfl (hne _)
    ·rename_i he
     simp only [sJ] at h
     subst h
     have he':=of_decide_eq_true he
     refine ⟨x0,fun w=>?_,hv⟩
     simp only [Instr.typeAssert,Sem.run_bind,GB hu,Result.andThen_ok]
     cases d <;> first | (simp [he'] ; done) | exact absurd rfl (hne _)
    ·rename_i he
     have he':=of_decide_eq_false he
     split at h
     ·rename_i i hi
      split at h
      ·rename_i z hz
       simp only [sJ] at h
       subst h
       refine ⟨.tuple #[z,.bool false],fun w=>?_,(GQ.cons (QH z) (GQ.cons .bool GQ.nil)).tup⟩
       simp only [Instr.typeAssert,Sem.run_bind,GB hu,Result.andThen_ok]
       cases d <;> first | (simp [he',ZB hi hz,Result.andThen] ; done) | exact absurd rfl (hne _)
      ·cases h
     ·cases h
    ·cases h
  ·cases hx
   split at h
   ·rename_i i hi
    split at h
    ·rename_i z hz
     simp only [sJ] at h
     subst h
     refine ⟨.tuple #[z,.bool false],fun w=>?_,(GQ.cons (QH z) (GQ.cons .bool GQ.nil)).tup⟩
     simp only [Instr.typeAssert,Sem.run_bind,GB hu,Result.andThen_ok]
     cases d <;> first | (simp [ZB hi hz,Result.andThen] ; done) | exact absurd rfl (hne _)
    ·cases h
   ·cases h
  ·cases h
 ·cases h
def Gwm (P:Program) (hn:Hu) (ρ:Operand→AV) (o:Oper) (h:Hp):W OR:=
 match o.op with
 | .move x | .assign x=>W.pure (.val (ρ x) h)
 | .pick c a b=>(GtM hn (ρ c) (ρ a) (ρ b)).bind fun v=>W.pure (.val v h)
 | .alloc e=>(W.of (GqL P e h)).bind fun r=>W.pure (.val r.1 r.2)
 | .box e x=>(W.of (Gxh e (ρ x) h)).bind fun r=>W.pure (.val r.1 r.2)
 | .build t ps=>(W.of (GqP P t (ps.toList.map fun p=>(p.1,ρ p.2)))).bind fun v=>W.pure (.val v h)
 | .buildSlice t n ps=>(W.of (Gch P t n (ps.toList.map fun p=>(p.1,ρ p.2)) h)).bind fun r=>W.pure (.val r.1 r.2)
 | .load t a=>(Gvw P hn t (ρ a) h).bind fun v=>W.pure (.val v h)
 | .store t a x=>(GtS P hn t (ρ a) (ρ x) h).bind fun h'=>W.pure (.skip h')
 | .nilCheck x=>(W.of (GzQ (ρ x))).bind fun v=>W.pure (.val v h)
 | .binOp op t x y _=>(GzN P hn op t (ρ x) (ρ y)).bind fun v=>W.pure (.val v h)
 | .unOp op _ x=>(aUn hn op (ρ x)).bind fun v=>W.pure (.val v h)
 | .convert s d x=>(Gxj P hn s d (ρ x) h).bind fun r=>W.pure (.val r.1 r.2)
 | .makeInterface t x=>(W.of (GqW P t (ρ x))).bind fun v=>W.pure (.val v h)
 | .makeFunc f a c=>W.pure (.val (.fn f (a.toList.map ρ) (c.toList.map ρ)) h)
 | .makeSlice t l c=>(GjX P hn t (ρ l) (ρ c) h).bind fun r=>W.pure (.val r.1 r.2)
 | .slice t x lo hi none=>(GtQ P hn t (ρ x) (lo.map ρ) (hi.map ρ) h).bind fun v=>W.pure (.val v h)
 | .fieldAddr s x f=>(W.of (GaR P s (ρ x) f)).bind fun v=>W.pure (.val v h)
 | .field t x f=>(W.of (GqU P t (ρ x) f)).bind fun v=>W.pure (.val v h)
 | .indexAddr t x i=>(GjW P hn t (ρ x) (ρ i)).bind fun v=>W.pure (.val v h)
 | .index t x i=>(GtK P hn t (ρ x) (ρ i)).bind fun v=>W.pure (.val v h)
 | .makeMap t r=>(W.of (GkF P t (r.map ρ) h)).bind fun r=>W.pure (.val r.1 r.2)
 | .lookup t x i ok=>(GqX P hn t (ρ x) (ρ i) ok h).bind fun v=>W.pure (.val v h)
 | .mapUpdate t m k x=>(W.of (Gif P t (ρ m) (ρ k) (ρ x) h)).bind fun h'=>W.pure (.skip h')
 | .insert t m k x=>(W.of (Gif P t (ρ m) (ρ k) (ρ x) h)).bind fun h'=>W.pure (.skip h')
 | .mapEntry t m k=>(W.of (Gid P t (ρ m) (ρ k) h)).bind fun r=>W.pure (.val r.1 r.2)
 | .entryStore _ m k x=>(W.of (Gci (ρ m) (ρ k) (ρ x) h)).bind fun h'=>W.pure (.skip h')
 | .range t x=>(W.of (GqZ P t (ρ x) h)).bind fun r=>W.pure (.val r.1 r.2)
 | .next i s=>(Gxr hn s (ρ i) h).bind fun r=>W.pure (.val r.1 r.2)
 | .entry i=>(GtG hn (ρ i) h).bind fun v=>W.pure (.val v h)
 | .typeAssert x _ t ok=>(W.of (Gn0 P (ρ x) t ok)).bind fun v=>W.pure (.val v h)
 | .extract t i=>(W.of (Ggf (ρ t) i)).bind fun v=>W.pure (.val v h)
 | .panic x=>match ρ x with | .ifc t v=>W.pure (.pan (.ifc t v)) | _=>W.fail
 | .call c=>
  match c.callee with
  | .value f=>match aExt P (ρ f) (c.args.toList.map ρ) h with | some r=>W.pure (.val r.1 r.2) | none=>W.of (GzG P (ρ f) (c.args.toList.map ρ))
  | .builtin b=>Gse P hn b c.argTypes (c.args.toList.map ρ) h
  | .invoke _ _=>W.fail
 | .defer c=>
  match c.callee with
  | .value f=>match ρ f with | .fn (.func g) first cap=>(match Ggl P g with | true=>W.pure (.dfr g (first++c.args.toList.map ρ++cap)) | false=>W.fail) | _=>W.fail
  | _=>W.fail
 | _=>W.fail
variable {ρ:Operand→AV} {ρ':Operand→Value}
theorem GyB {α β:Type} (f:α→β) (a:Array α):(a.toList.map f).toArray=a.map f:=by
 apply Array.ext'
 rw [Array.toList_map]
theorem GlW (hρ:∀ x,G1 μ ro w true (ρ x) (ρ' x)):∀ l:List Operand,GQ μ ro w true (l.map ρ) (l.map ρ')
 | []=>GQ.nil
 | x::l=>GQ.cons (hρ x) (GlW hρ l)
theorem Gtb (hρ:∀ x,G1 μ ro w true (ρ x) (ρ' x)) (ps:Array (Nat×Operand)):
  (ps.toList.map fun p=>(p.1,ρ' p.2)).length=(ps.toList.map fun p=>(p.1,ρ p.2)).length∧
  ∀ i (h:i<(ps.toList.map fun p=>(p.1,ρ p.2)).length) (h':i<(ps.toList.map fun p=>(p.1,ρ' p.2)).length),
   ((ps.toList.map fun p=>(p.1,ρ' p.2))[i]).1=((ps.toList.map fun p=>(p.1,ρ p.2))[i]).1∧G1 μ ro w true ((ps.toList.map fun p=>(p.1,ρ p.2))[i]).2 ((ps.toList.map fun p=>(p.1,ρ' p.2))[i]).2:=
 ⟨by simp,fun i h h'=>by simp only [List.getElem_map,true_and]; exact hρ _⟩
theorem GxT {hn:Hu} {o:Oper} {h:Hp} (hρ:∀ x,G1 μ ro w true (ρ x) (ρ' x)) (hh:GV μ ro h w):
  (Gwm P hn ρ o h).sat fun r=>H0 P μ ro w h.nx (execOp ρ' o) r:=by
 have here:∀ {v:AV} {v':Value} {s:Sem Next},s.run P w=.ok (.value v') w→G1 μ ro w true v v'→H0 P μ ro w h.nx s (.val v h):=fun h1 h2=>⟨_,w,μ,h1,.refl _ _,h2,hh,Fr.refl _ _ _⟩
 unfold Gwm execOp
 cases o.op <;> simp only
 case move x=>exact W.sat_pure (here rfl (hρ x))
 case assign x=>exact W.sat_pure (here rfl (hρ x))
 case pick c a b=>
  refine W.sat_bind (GtN (P:=P) (hρ c) (hρ a) (hρ b)) fun v hv=>W.sat_pure ?_
  obtain ⟨v',h1,h2⟩:=hv
  refine here (v':=v') ?_ h2
  have:=h1 w
  simp only [Sem.run_bind,Sem.run_pure] at this ⊢
  cases hb:(asBool (ρ' c)).run P w with
  | ok x w1=>rw [hb] at this; simp only [Result.andThen_ok,Result.ok.injEq] at this ⊢; exact ⟨by rw [this.1],this.2⟩
  | halt x w1=>rw [hb] at this; simp at this
 case alloc e=>exact W.sat_bind (W.sat_of (Q:=fun r=>GqL P e h=some r) fun v hv=>hv) fun r hr=>W.sat_pure (H0.of_good (Gsb hr hh))
 case box e x=>exact W.sat_bind (W.sat_of (Q:=fun r=>Gxh e (ρ x) h=some r) fun v hv=>hv) fun r hr=>W.sat_pure (H0.of_good (Gp2 hr (hρ x) hh))
 case build t ps=>
  refine W.sat_bind (W.sat_of (Q:=fun r=>GqP P t _=some r) fun v hv=>hv) fun v hv=>W.sat_pure (H0.of_pure ?_ hh)
  obtain ⟨e1,e2⟩:=Gtb hρ ps
  have:=Gtx hv e1 e2
  rwa [GyB] at this
 case buildSlice t n ps=>
  refine W.sat_bind (W.sat_of (Q:=fun r=>Gch P t n _ h=some r) fun v hv=>hv) fun v hv=>W.sat_pure (H0.of_good ?_)
  obtain ⟨e1,e2⟩:=Gtb hρ ps
  have:=Gl8 hv e1 e2 hh
  rwa [GyB] at this
 case load t a=>exact W.sat_bind (Gp6 (hρ a) hh) fun v hv=>W.sat_pure (H0.of_here hv hh)
 case store t a x=>
  refine W.sat_bind (GtT (hρ a) (hρ x) hh) fun h' ⟨w',h1,h2,h3⟩=>W.sat_pure ⟨w',?_,h2,h3⟩
  simp [h1,Result.andThen]
 case nilCheck x=>
  refine W.sat_bind (W.sat_of (Q:=fun r=>GzQ (ρ x)=some r) fun v hv=>hv) fun v hv=>W.sat_pure ?_
  have hx:=hρ x
  unfold GzQ at hv
  split at hv
  ·simp only [sJ] at hv; subst hv
   rename_i heq
   rw [heq] at hx ⊢
   refine here (v':=ρ' x) ?_ hx
   cases hr:ρ' x <;> rw [hr] at hx <;> cases hx
   rfl
  ·simp only [sJ] at hv; subst hv
   rename_i heq
   rw [heq] at hx ⊢
   refine here (v':=ρ' x) ?_ hx
   cases hr:ρ' x <;> rw [hr] at hx <;> cases hx
   rfl
  ·simp only [sJ] at hv; subst hv
   rename_i heq
   rw [heq] at hx ⊢
   refine here (v':=ρ' x) ?_ hx
   cases hr:ρ' x <;> rw [hr] at hx <;> cases hx
   rfl
  ·simp only [sJ] at hv; subst hv
   rename_i heq
   rw [heq] at hx ⊢
   refine here (v':=ρ' x) ?_ hx
   cases hr:ρ' x <;> rw [hr] at hx <;> cases hx
   rfl
  ·cases hv
 case binOp op t x y u=>
  exact W.sat_bind (Gxg (P:=P) (p:=x) (q:=y) (hρ x) (hρ y)) fun v hv=>W.sat_pure (H0.of_pure (hv.here _ _ _) hh)
 case unOp op t x=>exact W.sat_bind (GyL (P:=P) (hρ x)) fun v hv=>W.sat_pure (H0.of_pure (hv.here _ _ _) hh)
 case convert s d x=>exact W.sat_bind (Gv1 (hρ x) hh) fun r hr=>W.sat_pure (H0.of_good hr)
 case makeInterface t x=>
  exact W.sat_bind (W.sat_of (Q:=fun r=>GqW P t (ρ x)=some r) fun v hv=>hv) fun v hv=>W.sat_pure (H0.of_pure (GtJ hv (hρ x)) hh)
 case makeFunc f a c=>
  refine W.sat_pure (here rfl ?_)
  have h1:=GlW hρ a.toList
  have h2:=GlW hρ c.toList
  refine .fn (by simp) (fun i hi=>?_) (by simp) (fun i hi=>?_)
  ·have:=h1.2 i hi
   rwa [show (List.map ρ' a.toList).getD i undef=(a.map ρ').getD i undef by rw [← G5 (a.map ρ')]; simp] at this
  ·have:=h2.2 i hi
   rwa [show (List.map ρ' c.toList).getD i undef=(c.map ρ').getD i undef by rw [← G5 (c.map ρ')]; simp] at this
 case makeSlice t l c=>exact W.sat_bind (Gok (hρ l) (hρ c) hh) fun r hr=>W.sat_pure (H0.of_good hr)
 case slice t x lo hi mx=>
  cases mx with
  | some m=>exact W.sat_fail
  | none=>
   simp only [Option.map_none]
   refine W.sat_bind (GtR (lo':=lo.map ρ') (hi':=hi.map ρ') hh (hρ x) (fun v hv=>?_) (fun e=>by simpa using e) (fun v hv=>?_) (fun e=>by simpa using e)) fun v hv=>W.sat_pure (H0.of_pure hv hh)
   ·cases lo with
    | none=>cases hv
    | some y=>simp only [Option.map_some,sJ] at hv; subst hv; exact ⟨_,rfl,hρ y⟩
   ·cases hi with
    | none=>cases hv
    | some y=>simp only [Option.map_some,sJ] at hv; subst hv; exact ⟨_,rfl,hρ y⟩
 case fieldAddr s x f=>exact W.sat_bind (W.sat_of (Q:=fun r=>GaR P s (ρ x) f=some r) fun v hv=>hv) fun v hv=>W.sat_pure (H0.of_pure (Ggg hv (hρ x)) hh)
 case field t x f=>exact W.sat_bind (W.sat_of (Q:=fun r=>GqU P t (ρ x) f=some r) fun v hv=>hv) fun v hv=>W.sat_pure (H0.of_pure (GtI hv (hρ x)) hh)
 case indexAddr t x i=>exact W.sat_bind (Goi (hρ x) (hρ i)) fun v hv=>W.sat_pure (H0.of_pure hv hh)
 case index t x i=>exact W.sat_bind (GtL (hρ x) (hρ i)) fun v hv=>W.sat_pure (H0.of_pure hv hh)
 case makeMap t r=>exact W.sat_bind (W.sat_of (Q:=fun q=>GkF P t (r.map ρ) h=some q) fun v hv=>hv) fun q hq=>W.sat_pure (H0.of_good (GpE hq (fun e=>by simpa using e) hh))
 case lookup t x i ok=>exact W.sat_bind (Gsj (hρ x) (hρ i) hh) fun v hv=>W.sat_pure (H0.of_here hv hh)
 case mapUpdate t m k x=>
  refine W.sat_bind (W.sat_of (Q:=fun q=>Gif P t (ρ m) (ρ k) (ρ x) h=some q) fun v hv=>hv) fun h' hq=>W.sat_pure ?_
  obtain ⟨w',h1,h2,h3⟩:=Gm5 hq (hρ m) (hρ k) (hρ x) hh
  exact ⟨w',by simp [h1,Result.andThen],h2,h3⟩
 case insert t m k x=>
  refine W.sat_bind (W.sat_of (Q:=fun q=>Gif P t (ρ m) (ρ k) (ρ x) h=some q) fun v hv=>hv) fun h' hq=>W.sat_pure ?_
  obtain ⟨w',h1,h2,h3⟩:=Gm5 hq (hρ m) (hρ k) (hρ x) hh
  exact ⟨w',by simp [h1,Result.andThen],h2,h3⟩
 case mapEntry t m k=>exact W.sat_bind (W.sat_of (Q:=fun q=>Gid P t (ρ m) (ρ k) h=some q) fun v hv=>hv) fun q hq=>W.sat_pure (H0.of_good (Gol hq (hρ m) (hρ k) hh))
 case entryStore t m k x=>
  refine W.sat_bind (W.sat_of (Q:=fun q=>Gci (ρ m) (ρ k) (ρ x) h=some q) fun v hv=>hv) fun h' hq=>W.sat_pure ?_
  obtain ⟨w',h1,h2,h3⟩:=GnB (P:=P) (t:=t) hq (hρ m) (hρ k) (hρ x) hh
  exact ⟨w',by simp [h1,Result.andThen],h2,h3⟩
 case range t x=>exact W.sat_bind (W.sat_of (Q:=fun r=>GqZ P t (ρ x) h=some r) fun v hv=>hv) fun r hr=>W.sat_pure (H0.of_good (Gsl hr (hρ x) hh))
 case entry i=>exact W.sat_bind (GtH (hρ i) hh) fun v hv=>W.sat_pure (H0.of_here hv hh)
 case next i s=>exact W.sat_bind (Gv5 (hρ i) hh) fun r hr=>W.sat_pure (H0.of_good hr)
 case typeAssert x xt t ok=>exact W.sat_bind (W.sat_of (Q:=fun r=>Gn0 P (ρ x) t ok=some r) fun v hv=>hv) fun v hv=>W.sat_pure (H0.of_pure (Gsd hv (hρ x)) hh)
 case extract t i=>exact W.sat_bind (W.sat_of (Q:=fun r=>Ggf (ρ t) i=some r) fun v hv=>hv) fun v hv=>W.sat_pure (H0.of_pure (GqT hv (hρ t)) hh)
 case panic x=>
  have hx:=hρ x
  split
  ·rename_i t v heq
   rw [heq] at hx
   refine W.sat_pure ?_
   cases hr:ρ' x <;> rw [hr] at hx <;> cases hx
   rename_i y hy
   exact ⟨_,by simp [Instr.panic,Result.andThen],.ifc hy⟩
  ·exact W.sat_fail
 case call c=>
  have hargs:=GlW hρ c.args.toList
  split
  ·rename_i f hc
   have hf:=hρ f
   split
   ·rename_i r hr
    refine W.sat_pure ?_
    unfold aExt at hr
    split at hr
    ·rename_i g heq
     split at hr
     ·rename_i hcl
      rw [heq] at hf
      cases hfv:ρ' f <;> rw [hfv] at hf <;> cases hf
      rename_i as cs hn hq hm hs
      have ha:as=#[]:=Array.eq_empty_of_size_eq_zero (by simpa using hn)
      have hc':cs=#[]:=Array.eq_empty_of_size_eq_zero (by simpa using hm)
      subst ha; subst hc'
      have hvs:GQ μ ro w true (c.args.toList.map ρ) (c.args.map ρ').toList:=by simpa using hargs
      obtain ⟨v',w',μ',q1,q2⟩:=GtF (P:=P) hr hvs hh
      refine ⟨v',w',μ',?_,q2⟩
      have hrun:=GsX hcl (c.args.map ρ') w
      rw [q1] at hrun
      simp only [resolve,hc,hfv,Deferred.ofValue,invoke,Sem.run_bind,Sem.run_pure,Result.andThen_ok,Array.empty_append,Array.append_empty]
      exact hrun
     ·split at hr
      ·rename_i hix
       simp only [sJ] at hr
       subst hr
       rw [heq] at hf
       cases hfv:ρ' f <;> rw [hfv] at hf <;> cases hf
       rename_i as cs hn hq hm hs
       have ha:as=#[]:=Array.eq_empty_of_size_eq_zero (by simpa using hn)
       have hc':cs=#[]:=Array.eq_empty_of_size_eq_zero (by simpa using hm)
       subst ha; subst hc'
       have hvs:GQ μ ro w true (c.args.toList.map ρ) (c.args.map ρ').toList:=by simpa using hargs
       obtain ⟨v',q1,q2⟩:=Gtz (P:=P) hix hvs
       refine ⟨v',w,μ,?_,.refl _ _,q2,hh,Fr.refl _ _ _⟩
       have hrun:=q1
       simp only [resolve,hc,hfv,Deferred.ofValue,invoke,Sem.run_bind,Sem.run_pure,Result.andThen_ok,Array.empty_append,Array.append_empty]
       exact hrun
      ·cases hr
    ·cases hr
   refine W.sat_of fun r hr=>?_
   unfold GzG at hr
   split at hr
   ·rename_i g first cap heq
    split at hr
    ·rename_i hcall
     simp only [sJ] at hr
     subst hr
     rw [heq] at hf
     cases hfv:ρ' f <;> rw [hfv] at hf <;> cases hf
     rename_i as cs hn hr hm hs
     refine ⟨as++c.args.map ρ'++cs,?_,?_⟩
     ·simp [resolve,hc,hfv,Deferred.ofValue,invoke,Result.andThen,GkL hcall]
     ·have r1:GQ μ ro w true first as.toList:=⟨by simpa using hn,fun i hi=>by rw [G5 as]; exact hr i hi⟩
      have r2:GQ μ ro w true cap cs.toList:=⟨by simpa using hm,fun i hi=>by rw [G5 cs]; exact hs i hi⟩
      have:=(r1.app hargs).app r2
      simpa using this
    ·cases hr
   ·cases hr
  ·rename_i b hc
   have hrun:∀ {s:Sem Next},builtin b c.argTypes o.type (c.args.map fun | .const _=>true | _=>false) (c.args.map ρ')=s→
     (do let d ← resolve ρ' c o.type; invoke d.target d.args:Sem Next).run P w=s.run P w:=fun hs=>by
    simp only [resolve,hc,Sem.run_bind,Sem.run_pure,Result.andThen_ok,invoke]
    rw [← hs]
    congr 1
   have conv:∀ {r:OR} {s:Sem Next},(do let d ← resolve ρ' c o.type; invoke d.target d.args:Sem Next).run P w=s.run P w→H0 P μ ro w h.nx s r→H0 P μ ro w h.nx (do let d ← resolve ρ' c o.type; invoke d.target d.args) r:=fun {r s} e h=>by
    cases r <;> simp only [H0] at h ⊢ <;> rw [e] <;> exact h
   have hsz:∀ l:List AV,c.args.toList.map ρ=l→(c.args.map ρ').toList.length=l.length:=fun l hl=>by rw [← hl]; simp
   generalize hl:c.args.toList.map ρ=l at hargs ⊢
   have hal:(c.args.map ρ')=(c.args.toList.map ρ').toArray:=(GyB _ _).symm
   rw [hal] at hrun
   generalize hxs:c.args.toList.map ρ'=xs at hargs hrun
   unfold Gse
   split
   ·obtain ⟨x1,xs1,rfl,r1,hargs⟩:=hargs.head
    obtain ⟨x2,xs2,rfl,r2,hargs⟩:=hargs.head
    obtain rfl:xs2=[]:=List.length_eq_zero_iff.1 (by simpa using hargs.1)
    exact W.sat_bind (Gsc (ty:=o.type) r1 r2 hh) fun r hr=>W.sat_pure (conv (hrun rfl) (H0.of_good hr))
   ·obtain ⟨x1,xs1,rfl,r1,hargs⟩:=hargs.head
    obtain ⟨x2,xs2,rfl,r2,hargs⟩:=hargs.head
    obtain rfl:xs2=[]:=List.length_eq_zero_iff.1 (by simpa using hargs.1)
    exact W.sat_bind (Gv2 (ty:=o.type) r1 r2 hh) fun r hr=>W.sat_pure (conv (hrun rfl) (H0.of_good hr))
   ·obtain ⟨x1,xs1,rfl,r1,hargs⟩:=hargs.head
    obtain rfl:xs1=[]:=List.length_eq_zero_iff.1 (by simpa using hargs.1)
    refine W.sat_bind (W.sat_of (Q:=fun v=>∃ t,c.argTypes[0]?=some t∧Gie P t _ h=some v) fun v hv=>?_) fun v ⟨t,ht,hv⟩=>W.sat_pure (conv (hrun rfl) (H0.of_here (Gm4 (ty:=o.type) ht hv r1 hh) hh))
    split at hv
    ·rename_i t ht; exact ⟨t,ht,hv⟩
    ·cases hv
   ·obtain ⟨x1,xs1,rfl,r1,hargs⟩:=hargs.head
    obtain rfl:xs1=[]:=List.length_eq_zero_iff.1 (by simpa using hargs.1)
    refine W.sat_bind (W.sat_of (Q:=fun v=>∃ t,c.argTypes[0]?=some t∧Gie P t _ h=some v) fun v hv=>?_) fun v ⟨t,ht,hv⟩=>W.sat_pure (conv (hrun rfl) (H0.of_here (Gm4 (ty:=o.type) ht hv r1 hh) hh))
    split at hv
    ·rename_i t ht; exact ⟨t,ht,hv⟩
    ·cases hv
   ·obtain ⟨x1,xs1,rfl,r1,hargs⟩:=hargs.head
    obtain rfl:xs1=[]:=List.length_eq_zero_iff.1 (by simpa using hargs.1)
    exact W.sat_bind (W.sat_of (Q:=fun r=>GyJ P _ _=some r) fun v hv=>hv) fun v hv=>W.sat_pure (conv (hrun rfl) (H0.of_pure (Gxm hv r1) hh))
   ·obtain ⟨x1,xs1,rfl,r1,hargs⟩:=hargs.head
    obtain rfl:xs1=[]:=List.length_eq_zero_iff.1 (by simpa using hargs.1)
    exact W.sat_bind (W.sat_of (Q:=fun r=>GyG P _ _=some r) fun v hv=>hv) fun v hv=>W.sat_pure (conv (hrun rfl) (H0.of_pure (Gxi hv r1) hh))
   ·obtain ⟨x1,xs1,rfl,r1,hargs⟩:=hargs.head
    obtain ⟨x2,xs2,rfl,r2,hargs⟩:=hargs.head
    obtain rfl:xs2=[]:=List.length_eq_zero_iff.1 (by simpa using hargs.1)
    exact W.sat_bind (Gxq (P:=P) r1 r2) fun v hv=>W.sat_pure (conv (hrun rfl) (H0.of_pure (hv.here _ _ _) hh))
   ·obtain ⟨x1,xs1,rfl,r1,hargs⟩:=hargs.head
    obtain ⟨x2,xs2,rfl,r2,hargs⟩:=hargs.head
    obtain rfl:xs2=[]:=List.length_eq_zero_iff.1 (by simpa using hargs.1)
    exact W.sat_bind (Gxo (P:=P) r1 r2) fun v hv=>W.sat_pure (conv (hrun rfl) (H0.of_pure (hv.here _ _ _) hh))
   ·obtain ⟨x1,xs1,rfl,r1,hargs⟩:=hargs.head
    obtain ⟨x2,xs2,rfl,r2,hargs⟩:=hargs.head
    obtain ⟨x3,xs3,rfl,r3,hargs⟩:=hargs.head
    obtain rfl:xs3=[]:=List.length_eq_zero_iff.1 (by simpa using hargs.1)
    exact W.sat_bind (Gv4 (P:=P) r1 r2 r3) fun v hv=>W.sat_pure (conv (hrun rfl) (H0.of_pure (hv.here _ _ _) hh))
   ·obtain ⟨x1,xs1,rfl,r1,hargs⟩:=hargs.head
    obtain ⟨x2,xs2,rfl,r2,hargs⟩:=hargs.head
    obtain ⟨x3,xs3,rfl,r3,hargs⟩:=hargs.head
    obtain rfl:xs3=[]:=List.length_eq_zero_iff.1 (by simpa using hargs.1)
    exact W.sat_bind (Gv3 (P:=P) r1 r2 r3) fun v hv=>W.sat_pure (conv (hrun rfl) (H0.of_pure (hv.here _ _ _) hh))
   ·obtain ⟨x1,xs1,rfl,r1,hargs⟩:=hargs.head
    obtain rfl:xs1=[]:=List.length_eq_zero_iff.1 (by simpa using hargs.1)
    exact W.sat_bind (GtD (ty:=o.type) r1 hh) fun r hr=>W.sat_pure (conv (hrun rfl) (H0.of_good hr))
   ·obtain ⟨x1,xs1,rfl,r1,hargs⟩:=hargs.head
    obtain rfl:xs1=[]:=List.length_eq_zero_iff.1 (by simpa using hargs.1)
    cases r1 with
    | ifc hv=>
     rename_i x0
     exact W.sat_pure (conv (hrun rfl) ⟨.iface _ x0,rfl,.ifc hv⟩)
   ·rename_i m0 k0
    obtain ⟨x1,xs1,rfl,r1,hargs⟩:=hargs.head
    obtain ⟨x2,xs2,rfl,r2,hargs⟩:=hargs.head
    obtain rfl:xs2=[]:=List.length_eq_zero_iff.1 (by simpa using hargs.1)
    refine W.sat_bind (W.sat_of (Q:=fun h'=>∃ t,c.argTypes[0]?=some t∧Gn2 P t m0 k0 h=some h') fun v hv=>?_) fun h' ⟨t,ht,hv⟩=>W.sat_pure ?_
    ·split at hv
     ·rename_i t ht; exact ⟨t,ht,hv⟩
     ·cases hv
    ·obtain ⟨w',q1,q2,q3⟩:=Gsg (ty:=o.type) ht hv r1 r2 hh
     exact conv (hrun rfl) (H0.of_good (r:=(.tup [],h')) ⟨.tuple #[],w',μ,q1,.refl _ _,GQ.nil.tup,q2,q3⟩)
   ·exact W.sat_fail
  ·exact W.sat_fail
 case defer c=>
  have hargs:=GlW hρ c.args.toList
  split
  ·rename_i f hc
   have hf:=hρ f
   split
   ·rename_i g first cap heq
    split
    ·rename_i hcall
     rw [heq] at hf
     cases hfv:ρ' f <;> rw [hfv] at hf <;> cases hf
     rename_i as cs hn hr hm hs
     refine W.sat_pure ⟨⟨.fn (.func g) cs,as++c.args.map ρ'⟩,?_,cs,as++c.args.map ρ',rfl,?_⟩
     ·simp [resolve,hc,hfv,Deferred.ofValue,Result.andThen]
     ·have r1:GQ μ ro w true first as.toList:=⟨by simpa using hn,fun i hi=>by rw [G5 as]; exact hr i hi⟩
      have r2:GQ μ ro w true cap cs.toList:=⟨by simpa using hm,fun i hi=>by rw [G5 cs]; exact hs i hi⟩
      have:=(r1.app hargs).app r2
      simpa using this
    ·exact W.sat_fail
   ·exact W.sat_fail
  ·exact W.sat_fail
 all_goals exact W.sat_fail
end
end Go.Proofs.YtdifanfcaemokaaGreatDoor.Av
