import Derived.Test.YtnlaiahcemckkaaGreatDoorHAvL
import Derived.DeepKeys
import Derived.WideKeyRuns
import Derived.Laws.Externs
open Prod (fst)
open Int (tdiv tmod)
set_option linter.unusedVariables false
set_option linter.unusedSimpArgs false
namespace Go.Proofs.YtnlaiahcemckkaaGreatDoor.Av
noncomputable section
open Go.RowKit
variable {P:Program} {μ μ':Nat→Option HI} {ro ro':Nat→Prop} {w w':World}
def GiX:AV→AV→Bool
 | .str s,.str t=>decide (s=t)
 | .int k a,.int j b=>decide (k=j)&&decide (a=b)
 | _,_=>false
def GdM:List AV→List AV→Bool
 | [],[]=>true
 | a::as,b::bs=>GiX a b&&GdM as bs
 | _,_=>false
def Kx:AV→AV→Bool
 | .str s,.str t=>decide (s=t)
 | .int k a,.int j b=>decide (k=j)&&decide (a=b)
 | .agg as,.agg bs=>GdM as bs
 | _,_=>false
def Gl9:TypeDesc→Option KB
 | .string=>some .s
 | .int k=>some (.i k)
 | _=>none
def Gsg (P:Program):List Field→Nat→Option (List KB)
 | [],_=>some []
 | f::fs,n=>
  match decide (f.name ≠ "_")&&Nat.beq f.offset n,(P.underlying f.type).bind Gl9,Gsg P fs (n+1) with
  | true,some b,some l=>some (b::l)
  | _,_,_=>none
def kdT (P:Program) (t:TypeId):Option KK:=
 match P.underlying t with
 | some .string=>some .s
 | some (.int k)=>some (.i k)
 | some (.struct fs)=>match P.stoodInHeld t with | false=>(Gsg P fs.toList 0).map .g | true=>none
 | some (.array n e)=>match (P.underlying e).bind Gl9,Rs P e with | some b,some 1=>some (.g (List.replicate n b)) | _,_=>none
 | _=>none
def GwT:KB→KB→Bool
 | .s,.s=>true
 | .i j,.i k=>decide (j=k)
 | _,_=>false
def Gte:List KB→List KB→Bool
 | [],[]=>true
 | a::as,b::bs=>GwT a b&&Gte as bs
 | _,_=>false
def Grx:KK→KK→Bool
 | .s,.s=>true
 | .i j,.i k=>decide (j=k)
 | .g l,.g m=>Gte l m
 | _,_=>false
theorem Gwl {a b:KB} (h:GwT a b=true):a=b:=by
 cases a <;> cases b <;> simp [GwT] at h ⊢ <;> exact h
theorem GqG:∀ {a b:List KB},Gte a b=true→a=b
 | [],[],_=>rfl
 | a::as,b::bs,h=>by
  simp only [Gte,Bool.and_eq_true] at h
  rw [Gwl h.1,GqG h.2]
 | [],_::_,h=>by cases h
 | _::_,[],h=>by cases h
theorem Gji {a b:KK} (h:Grx a b=true):a=b:=by
 cases a <;> cases b <;> simp [Grx] at h ⊢ <;> first | exact h | exact GqG h
theorem GkR {s t:List UInt8} (h:Value.string ⟨s.toArray⟩=Value.string ⟨t.toArray⟩):s=t:=by
 injection h with h
 injection h with h
 simpa using congrArg Array.toList h
theorem GrB {kd:KB} {k key:AV} {a b:Value} (ha:Jm kd k=some a) (hb:Jm kd key=some b):GiX k key=true↔a=b:=by
 cases kd with
 | s=>
  cases k <;> simp only [Jm,reduceCtorEq] at ha
  cases key <;> simp only [Jm,reduceCtorEq] at hb
  simp only [sJ] at ha hb
  subst ha; subst hb
  simp only [GiX,decide_eq_true_eq]
  exact ⟨fun h=>by rw [h],GkR⟩
 | i j=>
  cases k <;> simp only [Jm,reduceCtorEq] at ha
  cases key <;> simp only [Jm,reduceCtorEq] at hb
  split at ha
  ·split at hb
   ·rename_i h1 h2
    simp only [sJ] at ha hb
    subst ha; subst hb; subst h1; subst h2
    simp [GiX]
   ·cases hb
  ·cases ha
theorem Ji {b:KB} {l:List KB} {c:AV} {cs:List AV} {vs:List Value} (h:JH (b::l) (c::cs)=some vs):∃ v us,vs=v::us∧Jm b c=some v∧JH l cs=some us:=by
 unfold JH at h
 split at h
 ·rename_i v us h1 h2
  cases h
  exact ⟨v,us,rfl,h1,h2⟩
 ·cases h
theorem GmN:∀ {l:List KB} {as bs:List AV} {vs us:List Value},JH l as=some vs→JH l bs=some us→(GdM as bs=true↔vs=us)
 | [],[],[],vs,us,ha,hb=>by
  simp only [JH,sJ] at ha hb
  subst ha; subst hb
  simp [GdM]
 | b::l,x::xs,y::ys,vs,us,ha,hb=>by
  obtain ⟨v,vs',rfl,h1,h2⟩:=Ji ha
  obtain ⟨u,us',rfl,h3,h4⟩:=Ji hb
  simp only [GdM,Bool.and_eq_true,List.cons.injEq]
  rw [GrB h1 h3,GmN h2 h4]
 | [],_::_,_,_,_,ha,_=>by cases ha
 | [],[],_::_,_,_,_,hb=>by cases hb
 | _::_,[],_,_,_,ha,_=>by cases ha
 | _::_,_::_,[],_,_,_,hb=>by cases hb
theorem Q6 {kd:KK} {k key:AV} {a b:Value} (ha:G7 kd k=some a) (hb:G7 kd key=some b):Kx k key=true↔a=b:=by
 cases kd with
 | s=>
  cases k <;> simp only [G7,reduceCtorEq] at ha
  cases key <;> simp only [G7,reduceCtorEq] at hb
  simp only [sJ] at ha hb
  subst ha; subst hb
  simp only [Kx,decide_eq_true_eq]
  exact ⟨fun h=>by rw [h],GkR⟩
 | i j=>
  cases k <;> simp only [G7,reduceCtorEq] at ha
  cases key <;> simp only [G7,reduceCtorEq] at hb
  split at ha
  ·split at hb
   ·rename_i h1 h2
    simp only [sJ] at ha hb
    subst ha; subst hb; subst h1; subst h2
    simp [Kx]
   ·cases hb
  ·cases ha
 | g l=>
  cases k <;> simp only [G7,reduceCtorEq] at ha
  cases key <;> simp only [G7,reduceCtorEq] at hb
  obtain ⟨vs,h1,rfl⟩:=Option.map_eq_some_iff.1 ha
  obtain ⟨us,h2,rfl⟩:=Option.map_eq_some_iff.1 hb
  show GdM _ _=true↔_
  rw [GmN h1 h2]
  constructor
  ·intro h; rw [h]
  ·intro h
   injection h with h
   simpa using congrArg Array.toList h
theorem GqY {k key:AV} (h:GiX k key=true):k=key:=by
 unfold GiX at h
 split at h
 ·rw [of_decide_eq_true h]
 ·simp only [Bool.and_eq_true,decide_eq_true_eq] at h; rw [h.1,h.2]
 ·cases h
theorem Gl0:∀ {as bs:List AV},GdM as bs=true→as=bs
 | [],[],_=>rfl
 | a::as,b::bs,h=>by
  simp only [GdM,Bool.and_eq_true] at h
  rw [GqY h.1,Gl0 h.2]
 | [],_::_,h=>by cases h
 | _::_,[],h=>by cases h
theorem GnR {k key:AV} (h:Kx k key=true):k=key:=by
 unfold Kx at h
 split at h
 ·rw [of_decide_eq_true h]
 ·simp only [Bool.and_eq_true,decide_eq_true_eq] at h; rw [h.1,h.2]
 ·rw [Gl0 h]
 ·cases h
theorem Gso {kd:KK} {k:AV} {a:Value} (h:G7 kd k=some a):Kx k k=true:=(Q6 h h).2 rfl
/-! ### what the model does with keys -/
theorem V6 {t:TypeId} {d:TypeDesc} {vs:List Value} {i:Nat} {v:Value} (hu:P.underlying t=some d) (ha:QP d=false) (hv:vs[i]?=some v) (w:World):(part t vs.toArray i).run P w=.ok v w:=by
 simp only [part,Sem.run_bind,Gmw hu,ha,Result.andThen_ok]
 simp [hv]
theorem Gdi {t:TypeId} {b:KB} (h:(P.underlying t).bind Gl9=some b):∃ d,P.underlying t=some d∧Gl9 d=some b∧QP d=false:=by
 obtain ⟨d,h1,h2⟩:=Option.bind_eq_some_iff.1 h
 refine ⟨d,h1,h2,?_⟩
 cases d <;> simp [Gl9] at h2 <;> rfl
theorem Grq {t:TypeId} {b:KB} {c:AV} {v:Value} (h:(P.underlying t).bind Gl9=some b) (hv:Jm b c=some v) (em:Bool) (n:Nat) (w:World):(Instr.checkKey em (n+1) t v).run P w=.ok () w:=by
 obtain ⟨d,h1,h2, -⟩:=Gdi h
 unfold Instr.checkKey
 simp only [Sem.run_bind,Gx h1,Result.andThen_ok]
 cases d <;> simp [Gl9] at h2 <;> rfl
theorem Gqn {t:TypeId} {b:KB} {c e:AV} {v u:Value} (h:(P.underlying t).bind Gl9=some b) (hv:Jm b c=some v) (hu:Jm b e=some u) (n:Nat) (w:World):
  ∃ r:Bool,(Op.equalIn (n+1) t v u).run P w=.ok r w∧(r=true↔v=u):=by
 obtain ⟨d,h1,h2, -⟩:=Gdi h
 cases b with
 | s=>
  cases c <;> simp only [Jm,reduceCtorEq,sJ] at hv
  cases e <;> simp only [Jm,reduceCtorEq,sJ] at hu
  subst hv; subst hu
  cases d <;> simp [Gl9] at h2
  rename_i s t'
  refine ⟨decide (s=t'),?_,by simp only [decide_eq_true_eq]; exact ⟨fun h=>by rw [h],GkR⟩⟩
  simp only [Op.equalIn,Sem.run_bind,Gx h1,Result.andThen_ok,Sem.run_pure]
  rw [Gds]
  congr 1
  by_cases hh:s=t' <;> simp [hh]
 | i j=>
  cases c <;> simp only [Jm,reduceCtorEq] at hv
  cases e <;> simp only [Jm,reduceCtorEq] at hu
  split at hv
  ·split at hu
   ·rename_i h3 h4
    simp only [sJ] at hv hu
    subst hv; subst hu; subst h3; subst h4
    cases d <;> simp [Gl9] at h2
    rename_i x1 k1 x2 kk
    exact ⟨x1==x2,by simp only [Op.equalIn,Sem.run_bind,Gx h1,Result.andThen_ok,if_true,Sem.run_pure],by simp⟩
   ·cases hu
  ·cases hv
theorem Vn {α:Type} {l:List α} {n:Nat} {a:α} {m:List α} (h:l.drop n=a::m):l[n]?=some a∧l.drop (n+1)=m:=by
 constructor
 ·have:=congrArg (fun x=>x[0]?) h
  simpa using this
 ·rw [← List.drop_drop,h]; rfl
theorem Gjw {em:Bool} {n:Nat}:∀ {fs:List Field} {off:Nat} {l:List KB} {cs:List AV} {vs us:List Value} (w:World),Gsg P fs off=some l→JH l cs=some us→vs.drop off=us→
  (forIn (m:=Sem) fs PUnit.unit fun f _=>
   if f.name ≠ "_" then do
    let x ← part f.type vs.toArray f.offset
    Instr.checkKey em (n+1) f.type x
    pure (ForInStep.yield PUnit.unit)
   else pure (ForInStep.yield PUnit.unit)).run P w=.ok PUnit.unit w
 | [],off,l,cs,vs,us,w,h,h2,h3=>by simp
 | f::fs,off,l,cs,vs,us,w,h,h2,h3=>by
  unfold Gsg at h
  split at h
  ·rename_i b l' hc hb hl
   cases h
   cases cs with
   | nil=>cases h2
   | cons c cs=>
    obtain ⟨v,us',rfl,q1,q2⟩:=Ji h2
    simp only [Bool.and_eq_true,decide_eq_true_eq] at hc
    have ho:=Nat.eq_of_beq_eq_true hc.2
    subst ho
    obtain ⟨g1,g2⟩:=Vn h3
    obtain ⟨d,k1,k2,k3⟩:=Gdi hb
    simp only [List.forIn_cons,Sem.run_bind,hc.1,ne_eq,not_false_eq_true,if_true,Result.andThen_ok,V6 k1 k3 g1,Grq hb q1,Sem.run_pure]
    exact Gjw w hl q2 g2
  ·cases h
theorem Gkt {n:Nat}:∀ {fs:List Field} {off:Nat} {l:List KB} {cs es:List AV} {vs us vs' us':List Value} (w:World),Gsg P fs off=some l→JH l cs=some vs'→JH l es=some us'→vs.drop off=vs'→us.drop off=us'→
  ∃ r:Bool,(Op.eqFields (n+1) vs.toArray us.toArray fs).run P w=.ok r w∧(r=true↔vs'=us')
 | [],off,l,cs,es,vs,us,vs',us',w,h,h2,h3,_,_=>by
  simp only [Gsg,sJ] at h
  subst h
  cases cs with
  | nil=>
   cases es with
   | nil=>
    simp only [JH,sJ] at h2 h3
    subst h2; subst h3
    exact ⟨true,by simp [Op.eqFields],by simp⟩
   | cons e es=>cases h3
  | cons c cs=>cases h2
 | f::fs,off,l,cs,es,vs,us,vs',us',w,h,h2,h3,h4,h5=>by
  unfold Gsg at h
  split at h
  ·rename_i b l' hc hb hl
   cases h
   cases cs with
   | nil=>cases h2
   | cons c cs=>
    cases es with
    | nil=>cases h3
    | cons e es=>
     obtain ⟨v,vs1,rfl,q1,q2⟩:=Ji h2
     obtain ⟨u,us1,rfl,q3,q4⟩:=Ji h3
     simp only [Bool.and_eq_true,decide_eq_true_eq] at hc
     have ho:=Nat.eq_of_beq_eq_true hc.2
     subst ho
     obtain ⟨g1,g2⟩:=Vn h4
     obtain ⟨g3,g4⟩:=Vn h5
     obtain ⟨d,k1,k2,k3⟩:=Gdi hb
     obtain ⟨r,e1,e2⟩:=Gqn hb q1 q3 n w
     obtain ⟨r',e3,e4⟩:=Gkt (n:=n) (vs:=vs) (us:=us) w hl q2 q4 g2 g4
     simp only [Op.eqFields,hc.1,ne_eq,not_false_eq_true,if_true,Sem.run_bind,V6 k1 k3 g1,V6 k1 k3 g3,e1,Result.andThen_ok,List.cons.injEq]
     cases r
     ·exact ⟨false,by simp,by simp; intro e; exact absurd (e2.2 e) (by simp)⟩
     ·refine ⟨r',by simpa using e3,?_⟩
      rw [e4]
      simp [e2.1 rfl]
  ·cases h
theorem Grp {t:TypeId} (h:Rs P t=some 1):∃ i,P.info? t=some i∧i.size=1:=by
 unfold Rs at h
 obtain ⟨i,h1,h2⟩:=Option.map_eq_some_iff.1 h
 exact ⟨i,h1,h2⟩
theorem GlV {em:Bool} {n:Nat} {e:TypeId} {b:KB} {i0:TypeInfo} (hb:(P.underlying e).bind Gl9=some b) (hi:P.info? e=some i0) (hs:i0.size=1) {vs:List Value}:∀ (k off:Nat) {cs:List AV} {us:List Value} (w:World),JH (List.replicate k b) cs=some us→vs.drop off=us→
  (forIn (m:=Sem) (List.range' off k) PUnit.unit fun i _=>do
   let z ← sizeOf e
   let x ← part e vs.toArray (i*z)
   Instr.checkKey em (n+1) e x
   pure (ForInStep.yield PUnit.unit)).run P w=.ok PUnit.unit w
 | 0,off,cs,us,w,h2,h3=>by simp
 | k+1,off,cs,us,w,h2,h3=>by
  rw [List.replicate_succ] at h2
  cases cs with
  | nil=>cases h2
  | cons c cs=>
   obtain ⟨v,us',rfl,q1,q2⟩:=Ji h2
   obtain ⟨g1,g2⟩:=Vn h3
   obtain ⟨d,k1,k2,k3⟩:=Gdi hb
   rw [List.range'_succ]
   have g1':vs[off*1]?=some v:=by rw [Nat.mul_one]; exact g1
   simp only [List.forIn_cons,Sem.run_bind,Hw hi,hs,Result.andThen_ok,V6 k1 k3 g1',Grq hb q1,Sem.run_pure]
   exact GlV hb hi hs k (off+1) w q2 g2
theorem GlF {n:Nat} {e:TypeId} {b:KB} (hb:(P.underlying e).bind Gl9=some b) {vs us:List Value}:∀ (k off:Nat) {cs es:List AV} {vs' us':List Value} (w:World),JH (List.replicate k b) cs=some vs'→JH (List.replicate k b) es=some us'→vs.drop off=vs'→us.drop off=us'→
  ∃ r:Bool,(Op.eqItems (n+1) e 1 vs.toArray us.toArray (List.range' off k)).run P w=.ok r w∧(r=true↔vs'=us')
 | 0,off,cs,es,vs',us',w,h2,h3,_,_=>by
  cases cs with
  | nil=>
   cases es with
   | nil=>
    simp only [List.replicate_zero,JH,sJ] at h2 h3
    subst h2; subst h3
    exact ⟨true,by simp [Op.eqItems],by simp⟩
   | cons e es=>cases h3
  | cons c cs=>cases h2
 | k+1,off,cs,es,vs',us',w,h2,h3,h4,h5=>by
  rw [List.replicate_succ] at h2 h3
  cases cs with
  | nil=>cases h2
  | cons c cs=>
   cases es with
   | nil=>cases h3
   | cons x es=>
    obtain ⟨v,vs1,rfl,q1,q2⟩:=Ji h2
    obtain ⟨u,us1,rfl,q3,q4⟩:=Ji h3
    obtain ⟨g1,g2⟩:=Vn h4
    obtain ⟨g3,g4⟩:=Vn h5
    obtain ⟨d,k1,k2,k3⟩:=Gdi hb
    obtain ⟨r,e1,e2⟩:=Gqn hb q1 q3 n w
    obtain ⟨r',e3,e4⟩:=GlF (n:=n) hb (vs:=vs) (us:=us) k (off+1) w q2 q4 g2 g4
    have g1':vs[off*1]?=some v:=by rw [Nat.mul_one]; exact g1
    have g3':us[off*1]?=some u:=by rw [Nat.mul_one]; exact g3
    rw [List.range'_succ]
    simp only [Op.eqItems,Sem.run_bind,V6 k1 k3 g1',V6 k1 k3 g3',e1,Result.andThen_ok,List.cons.injEq]
    cases r
    ·exact ⟨false,by simp,by simp; intro e; exact absurd (e2.2 e) (by simp)⟩
    ·refine ⟨r',by simpa using e3,?_⟩
     rw [e4]
     simp [e2.1 rfl]
theorem K4 {kd:KK} {kt:TypeId} {key:AV} {b:Value} (hd:kdT P kt=some kd) (hb:G7 kd key=some b) (em:Bool) (w:World):(Instr.checkKey em 10000 kt b).run P w=.ok () w:=by
 unfold kdT at hd
 split at hd
 ·rename_i hu
  cases hd
  unfold Instr.checkKey
  simp only [Sem.run_bind,Gx hu,Result.andThen_ok]
  rfl
 ·rename_i k hu
  cases hd
  unfold Instr.checkKey
  simp only [Sem.run_bind,Gx hu,Result.andThen_ok]
  rfl
 ·rename_i fs hu
  split at hd
  ·obtain ⟨l,hl,rfl⟩:=Option.map_eq_some_iff.1 hd
   cases key <;> simp only [G7,reduceCtorEq] at hb
   obtain ⟨vs,h1,rfl⟩:=Option.map_eq_some_iff.1 hb
   rw [Instr.checkKey]
   simp only [Sem.run_bind,Gx hu,Result.andThen_ok]
   rw [← Array.forIn_toList]
   rw [Gjw (n:=9998) w hl h1 rfl]
   rfl
  ·cases hd
 ·rename_i n e hu
  split at hd
  ·rename_i b' hb' hs
   cases hd
   cases key <;> simp only [G7,reduceCtorEq] at hb
   obtain ⟨vs,h1,rfl⟩:=Option.map_eq_some_iff.1 hb
   obtain ⟨i0,hi,hs1⟩:=Grp hs
   rw [Instr.checkKey]
   simp only [Sem.run_bind,Gx hu,Result.andThen_ok]
   simp only [Std.Legacy.Range.forIn_eq_forIn_range',Std.Legacy.Range.size,Nat.sub_zero,Nat.add_one_sub_one,Nat.div_one]
   rw [GlV (n:=9998) hb' hi hs1 n 0 w h1 rfl]
   rfl
  ·cases hd
 ·cases hd
theorem Gwg {l:List KB} {kt:TypeId} {k key:AV} {a b:Value} (hd:kdT P kt=some (.g l)) (ha:G7 (.g l) k=some a) (hb:G7 (.g l) key=some b) (w:World):∃ r:Bool,(Op.equal kt a b).run P w=.ok r w∧(r=true↔a=b):=by
 cases k <;> simp only [G7,reduceCtorEq] at ha
 cases key <;> simp only [G7,reduceCtorEq] at hb
 obtain ⟨vs,h1,rfl⟩:=Option.map_eq_some_iff.1 ha
 obtain ⟨us,h2,rfl⟩:=Option.map_eq_some_iff.1 hb
 have hv:∀ {x y:List Value},(Value.agg x.toArray=Value.agg y.toArray)↔x=y:=fun {x y}=>⟨fun h=>by injection h with h; simpa using congrArg Array.toList h,fun h=>by rw [h]⟩
 unfold kdT at hd
 split at hd
 ·cases hd
 ·cases hd
 ·rename_i fs hu
  split at hd
  ·rename_i hst
   obtain ⟨l',hl,e⟩:=Option.map_eq_some_iff.1 hd
   cases e
   have hf:P.fieldsOf kt=fs:=by unfold Program.fieldsOf; rw [hu]
   obtain ⟨r,q1,q2⟩:=Gkt (n:=9998) (vs:=vs) (us:=us) w hl h1 h2 rfl rfl
   refine ⟨r,?_,by rw [q2,hv]⟩
   show (Op.equalIn (9999+1) kt _ _).run P w=_
   rw [run_equalIn_struct w 9999 kt _ _ (by rw [hf]; exact hu) hst,hf]
   exact q1
  ·cases hd
 ·rename_i n e hu
  split at hd
  ·rename_i b' hb' hs
   simp only [sJ,KK.g.injEq] at hd
   subst hd
   obtain ⟨i0,hi,hs1⟩:=Grp hs
   obtain ⟨r,q1,q2⟩:=GlF (n:=9998) hb' (vs:=vs) (us:=us) n 0 w h1 h2 rfl rfl
   refine ⟨r,?_,by rw [q2,hv]⟩
   show (Op.equalIn (9999+1) kt _ _).run P w=_
   have hc:P.cellsOf e=1:=by
    unfold Program.cellsOf
    rw [hi]
    exact hs1
   rw [run_equalIn_array w 9999 _ _ hu hi,hc,List.range_eq_range']
   exact q1
  ·cases hd
 ·cases hd
theorem Gm7 {kd:KK} {key:AV} {b:Value} (hb:G7 kd key=some b) (w:World):(Instr.keyThatStays b b).run P w=.ok b w:=by
 have base:∀ {m:Nat} {kb:KB} {c:AV} {v:Value},Jm kb c=some v→Instr.sameBits m v v=true:=fun {m kb c v} h=>by
  cases kb with
  | s=>
   cases c <;> simp only [Jm,reduceCtorEq,sJ] at h
   subst h
   simp [Instr.sameBits,Gds]
  | i j=>
   cases c <;> simp only [Jm,reduceCtorEq] at h
   split at h
   ·cases h; simp [Instr.sameBits]
   ·cases h
 unfold Instr.keyThatStays
 have key:Instr.sameBits 10000 b b=true:=by
  cases kd with
  | s=>
   cases key <;> simp only [G7,reduceCtorEq,sJ] at hb
   subst hb
   simp [Instr.sameBits,Gds]
  | i j=>
   cases key <;> simp only [G7,reduceCtorEq] at hb
   split at hb
   ·cases hb; simp [Instr.sameBits]
   ·cases hb
  | g l=>
   cases key <;> simp only [G7,reduceCtorEq] at hb
   obtain ⟨vs,h1,rfl⟩:=Option.map_eq_some_iff.1 hb
   show Instr.sameBits (9999+1) _ _=true
   unfold Instr.sameBits
   simp only [BEq.rfl,Bool.true_and]
   clear hb
   rename_i cs
   induction l generalizing cs vs with
   | nil=>cases cs with
    | nil=>simp only [JH,sJ] at h1; subst h1; rfl
    | cons c cs=>cases h1
   | cons kb l ih=>
    cases cs with
    | nil=>cases h1
    | cons c cs=>
     obtain ⟨v,us,rfl,q1,q2⟩:=Ji h1
     have:=ih _ _ q2
     simp only [List.zip_cons_cons,List.all_cons,Bool.and_eq_true]
     exact ⟨base q1,this⟩
 rw [key]
 rfl
theorem GjC:∀ {l:List KB} {cs:List AV} {vs:List Value} {o:Bool},JH l cs=some vs→GR μ ro w o cs vs
 | [],[],vs,o,h=>by simp only [JH,sJ] at h; subst h; exact GR.nil
 | kb::l,c::cs,vs,o,h=>by
  obtain ⟨v,us,rfl,q1,q2⟩:=Ji h
  refine GR.cons ?_ (GjC q2)
  cases kb with
  | s=>
   cases c <;> simp only [Jm,reduceCtorEq,sJ] at q1
   subst q1
   exact .str (by simp)
  | i j=>
   cases c <;> simp only [Jm,reduceCtorEq] at q1
   split at q1
   ·cases q1; exact .int
   ·cases q1
 | [],_::_,_,_,h=>by cases h
 | _::_,[],_,_,h=>by cases h
theorem Gss {kd:KK} {k:AV} {b:Value} {o:Bool} (h:G7 kd k=some b):GX μ ro w o k b:=by
 cases kd with
 | s=>
  cases k <;> simp only [G7,reduceCtorEq,sJ] at h
  subst h
  exact .str (by simp)
 | i j=>
  cases k <;> simp only [G7,reduceCtorEq] at h
  split at h
  ·cases h; exact .int
  ·cases h
 | g l=>
  cases k <;> simp only [G7,reduceCtorEq] at h
  obtain ⟨vs,h1,rfl⟩:=Option.map_eq_some_iff.1 h
  exact (GjC h1).agg
theorem Gky:∀ {l:List KB} {cs:List AV} {vs us:List Value} {o:Bool},JH l cs=some vs→GR μ ro w o cs us→us=vs
 | [],[],vs,us,o,h,hr=>by
  simp only [JH,sJ] at h; subst h
  exact List.length_eq_zero_iff.1 (by simpa using hr.1)
 | kb::l,c::cs,vs,us,o,h,hr=>by
  obtain ⟨v,vs',rfl,q1,q2⟩:=Ji h
  obtain ⟨u,us',rfl,r1,r2⟩:=hr.head
  rw [Gky q2 r2]
  congr 1
  cases kb with
  | s=>
   cases c <;> simp only [Jm,reduceCtorEq,sJ] at q1
   subst q1
   cases r1 with
   | str h=>rw [← h]
  | i j=>
   cases c <;> simp only [Jm,reduceCtorEq] at q1
   split at q1
   ·cases q1; cases r1; rfl
   ·cases q1
 | [],_::_,_,_,_,h,_=>by cases h
 | _::_,[],_,_,_,h,_=>by cases h
theorem Gmr {kd:KK} {key:AV} {b b':Value} {o:Bool} (hr:GX μ ro w o key b') (hb:G7 kd key=some b):b'=b:=by
 cases kd with
 | s=>
  cases key <;> simp only [G7,reduceCtorEq] at hb
  simp only [sJ] at hb
  subst hb
  cases hr with
  | str h=>rw [← h]
 | i j=>
  cases key <;> simp only [G7,reduceCtorEq] at hb
  split at hb
  ·simp only [sJ] at hb
   subst hb
   cases hr
   rfl
  ·cases hb
 | g l=>
  cases key <;> simp only [G7,reduceCtorEq] at hb
  obtain ⟨vs,h1,rfl⟩:=Option.map_eq_some_iff.1 hb
  obtain ⟨us,rfl,hus⟩:=hr.agg_inv
  rw [Gky h1 hus]
end
noncomputable section
open Go.RowKit
variable {P:Program} {μ μ':Nat→Option HI} {ro ro':Nat→Prop} {w w':World}
def Ja:List (AV×AV)→AV→Option AV
 | [],_=>none
 | (k,v)::es,key=>match Kx k key with | true=>some v | false=>Ja es key
def YA:List (AV×AV)→AV→AV→List (AV×AV)
 | [],key,x=>[(key,x)]
 | (k,v)::es,key,x=>match Kx k key with | true=>(k,x)::es | false=>(k,v)::YA es key x
/-! ### what is found -/
theorem GoC {kd:KK} {key:AV} {b:Value} (hb:G7 kd key=some b):∀ {es:List (AV×AV)} {p:List MapEntry} {v:AV},K5 kd μ ro w es p→Ja es key=some v→∃ m ∈ p,m.key=b∧GX μ ro w false v m.val
 | [],[],v,_,h=>by cases h
 | (k,x)::es,m::p,v,.cons hk hv he,h=>by
  unfold Ja at h
  split at h
  ·rename_i hq
   cases h
   exact ⟨m,by simp,(Q6 hk hb).1 hq,hv⟩
  ·obtain ⟨m',h1,h2⟩:=GoC hb he h
   exact ⟨m',by simp [h1],h2⟩
theorem Gou {kd:KK} {key:AV} {b:Value} (hb:G7 kd key=some b):∀ {es:List (AV×AV)} {p:List MapEntry},K5 kd μ ro w es p→Ja es key=none→∀ m ∈ p,m.key≠b
 | [],[],_,_,m,hm=>by cases hm
 | (k,x)::es,m::p,.cons hk hv he,h,m',hm=>by
  unfold Ja at h
  split at h
  ·cases h
  ·rename_i hq
   rcases List.mem_cons.1 hm with rfl | hm
   ·intro e
    rw [(Q6 hk hb).2 e] at hq
    cases hq
   ·exact Gou hb he h m' hm
def QI (b:Value):List MapEntry→Nat→Option (Nat×Value)
 | [],_=>none
 | m::ms,i=>open Classical in if m.key=b then some (i,m.val) else QI b ms (i+1)
def GtP:TypeDesc→Option KK
 | .string=>some .s
 | .int k=>some (.i k)
 | _=>none
theorem Gve {kd:KK} {d:TypeDesc} {a c:Value} {k key:AV} (hd:GtP d=some kd) (ha:G7 kd key=some a) (hc:G7 kd k=some c):Instr.sameNow d a c=some (open Classical in decide (c=a)):=by
 have hiff:=Q6 hc ha
 cases kd with
 | s=>
  cases d <;> simp only [GtP,reduceCtorEq,sJ] at hd
  cases k <;> simp only [G7,reduceCtorEq] at hc
  cases key <;> simp only [G7,reduceCtorEq] at ha
  simp only [sJ] at ha hc
  subst ha; subst hc
  rename_i s t
  simp only [Instr.sameNow]
  have e:((⟨t.toArray⟩:ByteArray)==⟨s.toArray⟩)=decide (s=t):=by
   rw [Gds]
   by_cases h:s=t
   ·subst h; simp
   ·have h2:¬ t=s:=fun q=>h q.symm
    simp [h,h2]
  rw [e]
  congr 1
  by_cases h:s=t
  ·simp [h]
  ·have:¬ (Value.string ⟨s.toArray⟩=Value.string ⟨t.toArray⟩):=fun q=>h (of_decide_eq_true (hiff.2 q))
   simp [h,this]
 | i j=>
  cases d <;> simp only [GtP,reduceCtorEq,sJ,KK.i.injEq] at hd
  cases k <;> simp only [G7,reduceCtorEq] at hc
  cases key <;> simp only [G7,reduceCtorEq] at ha
  split at ha
  ·split at hc
   ·rename_i h1 h2
    simp only [sJ] at ha hc
    subst ha; subst hc; subst h1; subst h2
    rename_i m n
    simp only [Instr.sameNow,if_true]
    congr 1
    by_cases h:m=n
    ·subst h; simp
    ·have h2:¬ n=m:=fun q=>h q.symm
     simp [h,h2]
   ·cases hc
  ·cases ha
 | g l=>cases d <;> simp [GtP] at hd
theorem Grc {kd:KK} {d:TypeDesc} {key:AV} {b:Value} (hd:GtP d=some kd) (hb:G7 kd key=some b):∀ (ms:List MapEntry) (i:Nat),(∀ m ∈ ms,∃ k,G7 kd k=some m.key)→Instr.findNow d b ms i=some (QI b ms i)
 | [],i,_=>rfl
 | m::ms,i,h=>by
  obtain ⟨k,hk⟩:=h m (by simp)
  have hs:=Gve hd hb hk
  unfold Instr.findNow QI
  rw [hs]
  by_cases e:m.key=b
  ·simp [e]
  ·simp only [e,decide_false,if_false]
   exact Grc hd hb ms (i+1) (fun m hm=>h m (by simp [hm]))
theorem Ue {b:Value}:∀ {ms:List MapEntry} {i j:Nat} {x:Value},QI b ms i=some (j,x)→i≤j∧∃ m,ms[j - i]?=some m∧m.key=b∧x=m.val
 | [],i,j,x,h=>by cases h
 | m::ms,i,j,x,h=>by
  unfold QI at h
  split at h
  ·rename_i e
   simp only [sJ,Prod.mk.injEq] at h
   obtain ⟨rfl,rfl⟩:=h
   exact ⟨Nat.le_refl _,m,by simp,e,rfl⟩
  ·obtain ⟨h1,m',h2,h3⟩:=Ue h
   refine ⟨by omega,m',?_,h3⟩
   rw [show j - i=(j - (i+1))+1 by omega]
   simpa using h2
theorem GfW {b:Value}:∀ {ms:List MapEntry} {i:Nat},QI b ms i=none→∀ m ∈ ms,m.key≠b
 | [],i,_,m,hm=>by cases hm
 | m::ms,i,h,m',hm=>by
  unfold QI at h
  split at h
  ·cases h
  ·rename_i e
   rcases List.mem_cons.1 hm with rfl | hm
   ·exact e
   ·exact GfW h m' hm
theorem K5.keys {kd:KK}:∀ {es:List (AV×AV)} {p:List MapEntry},K5 kd μ ro w es p→∀ m ∈ p,∃ e ∈ es,G7 kd e.1=some m.key
 | _,_,.nil,m,hm=>by cases hm
 | _,_,.cons hk hv he,m,hm=>by
  rcases List.mem_cons.1 hm with rfl | hm
  ·exact ⟨_,List.mem_cons_self ..,hk⟩
  ·obtain ⟨e,h1,h2⟩:=he.keys m hm
   exact ⟨e,List.mem_cons_of_mem _ h1,h2⟩
theorem K5.nodup {kd:KK}:∀ {es:List (AV×AV)} {p:List MapEntry},K5 kd μ ro w es p→(es.map (·.1)).Nodup→(p.map (·.key)).Nodup
 | _,_,.nil,_=>List.nodup_nil
 | (k,v)::es,m::p,.cons hk hv he,hn=>by
  simp only [List.map_cons,List.nodup_cons] at hn ⊢
  refine ⟨fun hm=>hn.1 ?_,he.nodup hn.2⟩
  obtain ⟨m',h1,h2⟩:=List.mem_map.1 hm
  obtain ⟨e,h3,h4⟩:=he.keys m' h1
  rw [h2] at h4
  have:=GnR ((Q6 h4 hk).2 rfl)
  rw [← this]
  exact List.mem_map.2 ⟨e,h3,rfl⟩
theorem Gm6 {ms:List MapEntry} (hn:(ms.map (·.key)).Nodup) {i j:Nat} {m m':MapEntry} (hi:ms[i]?=some m) (hj:ms[j]?=some m') (he:m.key=m'.key):i=j:=by
 have h1:(ms.map (·.key))[i]?=some m.key:=by rw [List.getElem?_map,hi]; rfl
 have h2:(ms.map (·.key))[j]?=some m'.key:=by rw [List.getElem?_map,hj]; rfl
 obtain ⟨hil,e1⟩:=List.getElem?_eq_some_iff.1 h1
 obtain ⟨hjl,e2⟩:=List.getElem?_eq_some_iff.1 h2
 rw [List.Nodup,List.pairwise_iff_getElem] at hn
 rcases Nat.lt_trichotomy i j with h | h | h
 ·exact absurd (e1.trans (he.trans e2.symm)) (hn i j hil hjl h)
 ·exact h
 ·exact absurd (e2.trans (he.symm.trans e1.symm)) (hn j i hjl hil h)
/-! ### the operations -/
theorem Gvn {kt:TypeId} {kd:KK} (h:kdT P kt=some kd):(∃ d,P.underlying kt=some d∧GtP d=some kd)∨(∃ l,kd=.g l∧(match P.underlying kt with | some (.array _ _) | some (.struct _)=>true | _=>false)=true):=by
 have h0:=h
 unfold kdT at h
 split at h
 ·rename_i hu; cases h; exact .inl ⟨_,hu,rfl⟩
 ·rename_i hu; cases h; exact .inl ⟨_,hu,rfl⟩
 ·rename_i fs hu
  split at h
  ·obtain ⟨l,hl,rfl⟩:=Option.map_eq_some_iff.1 h
   exact .inr ⟨l,rfl,by rw [hu]⟩
  ·cases h
 ·rename_i n e hu
  split at h
  ·cases h; exact .inr ⟨_,rfl,by rw [hu]⟩
  ·cases h
 ·cases h
theorem GlN {l:List KB} {kt:TypeId} {key:AV} {b:Value} (hd:kdT P kt=some (.g l)) (hb:G7 (.g l) key=some b) (w':World):∀ (ms:List MapEntry) (i:Nat),(∀ m ∈ ms,∃ k,G7 (.g l) k=some m.key)→
  (Instr.findAsking kt b ms i).run P w'=.ok (QI b ms i) w'
 | [],i,_=>by simp [Instr.findAsking,QI]
 | m::ms,i,h=>by
  obtain ⟨k,hk⟩:=h m (by simp)
  obtain ⟨r,h1,h2⟩:=Gwg hd hb hk w'
  unfold Instr.findAsking QI
  simp only [Sem.run_bind,h1,Result.andThen_ok]
  by_cases e:m.key=b
  ·have hr:r=true:=h2.2 e.symm
   subst hr
   simp [e]
  ·have hr:r=false:=by cases r; rfl; exact absurd (h2.1 rfl).symm e
   subst hr
   simp only [Bool.false_eq_true,if_false,e]
   exact GlN hd hb w' ms (i+1) (fun m hm=>h m (by simp [hm]))
theorem ZB {kd:KK} {kt:TypeId} {key:AV} {b:Value} {es:List (AV×AV)} {p ms:List MapEntry} (hd:kdT P kt=some kd) (hb:G7 kd key=some b) (hp:p.Perm ms) (he:K5 kd μ ro w es p) (w':World):
  (Instr.findKey kt b ms).run P w'=.ok (QI b ms 0) w':=by
 have hks:∀ m ∈ ms,∃ k,G7 kd k=some m.key:=fun m hm=>by
  obtain ⟨e,h1,h2⟩:=he.keys m (hp.mem_iff.2 hm)
  exact ⟨_,h2⟩
 rcases Gvn hd with ⟨d,hu,hd'⟩ | ⟨l,rfl,hw⟩
 ·unfold Instr.findKey
  simp only [Sem.run_bind,Gx hu,Result.andThen_ok,Grc hd' hb ms 0 hks,Sem.run_pure]
 ·rw [run_findKey_eq w' hw]
  exact GlN hd hb w' ms 0 hks
def Gtn (hn:Ht) (es:List (AV×AV)) (key:AV):W (Option AV):=
 match hn with
 | .v [v]=>(W.owe (Ja es key=some v)).bind fun _=>W.pure (some v)
 | .b _=>(W.owe (Ja es key=none)).bind fun _=>W.pure none
 | _=>W.pure (Ja es key)
theorem Gow {hn:Ht} {es:List (AV×AV)} {key:AV}:(Gtn hn es key).sat fun r=>r=Ja es key:=by
 unfold Gtn
 split
 ·exact W.sat_bind W.sat_owe fun _ h=>W.sat_pure h.symm
 ·exact W.sat_bind W.sat_owe fun _ h=>W.sat_pure h.symm
 ·exact W.sat_pure rfl
def Gkp (ok:Bool) (r:Option AV) (z:AV):AV:=
 match r with
 | some v=>match ok with | true=>.tup [v,.bool true] | false=>v
 | none=>match ok with | true=>.tup [z,.bool false] | false=>z
def GoZ (P:Program) (hn:Ht) (t:TypeId) (x key:AV) (ok:Bool) (h:Hp):W AV:=
 match P.underlying t with
 | some (.map kt et)=>
  match (P.info? et).bind (·.zero) with
  | some z=>
   match kdT P kt with
   | some kd=>
    match (G7 kd key).isSome with
    | true=>
     match x with
     | .nilm=>W.pure (Gkp ok none (cst z))
     | .mapr id=>
      match h.m.get id with
      | some (.map kd' es)=>match Grx kd' kd with | true=>(Gtn hn es key).bind fun r=>W.pure (Gkp ok r (cst z)) | false=>W.fail
      | none=>
       match h.m.get (h.nx - 1) with
       | some (.mst id' kd' es _)=>match Nat.beq id id'&&Grx kd' kd with | true=>(Gtn hn es key).bind fun r=>W.pure (Gkp ok r (cst z)) | false=>W.fail
       | _=>W.fail
      | _=>W.fail
     | _=>W.fail
    | false=>W.fail
   | none=>W.fail
  | _=>W.fail
 | _=>W.fail
theorem Gjy {ok:Bool} {v z:AV} {x:Value} {o:Bool} (h:GX μ ro w o v x):GX μ ro w o (Gkp ok (some v) z) (if ok then .tuple #[x,.bool true] else x):=by
 cases ok with
 | true=>exact (GR.cons h (GR.cons .bool GR.nil)).tup
 | false=>exact h
theorem GdO {ok:Bool} {z:AV} {x:Value} {o:Bool} (h:GX μ ro w o z x):GX μ ro w o (Gkp ok none z) (if ok then .tuple #[x,.bool false] else x):=by
 cases ok with
 | true=>exact (GR.cons h (GR.cons .bool GR.nil)).tup
 | false=>exact h
theorem Gbz {kd:KK} {key:AV} {b:Value} {es:List (AV×AV)} {p ms:List MapEntry} (hb:G7 kd key=some b) (hp:p.Perm ms) (he:K5 kd μ ro w es p) (hn:(es.map (·.1)).Nodup):
  (∃ v i x,Ja es key=some v∧QI b ms 0=some (i,x)∧GX μ ro w false v x)∨(Ja es key=none∧QI b ms 0=none):=by
 have hkn:(ms.map (·.key)).Nodup:=(hp.map _).nodup_iff.1 (he.nodup hn)
 cases hl:Ja es key with
 | some v=>
  obtain ⟨m,h1,h2,h3⟩:=GoC hb he hl
  cases hf:QI b ms 0 with
  | none=>exact absurd h2 (GfW hf m (hp.mem_iff.1 h1))
  | some q=>
   obtain ⟨i,x⟩:=q
   obtain ⟨-,m',h4,h5,rfl⟩:=Ue hf
   obtain ⟨j,hj,e⟩:=List.getElem_of_mem (hp.mem_iff.1 h1)
   have hj':ms[j]?=some m:=by rw [List.getElem?_eq_getElem hj,e]
   have:=Gm6 hkn hj' h4 (h2.trans h5.symm)
   rw [Nat.sub_zero] at h4 this
   subst this
   rw [hj'] at h4
   cases h4
   exact .inl ⟨v,_,_,rfl,rfl,h3⟩
 | none=>
  cases hf:QI b ms 0 with
  | none=>exact .inr ⟨rfl,rfl⟩
  | some q=>
   obtain ⟨i,x⟩:=q
   obtain ⟨-,m',h4,h5, -⟩:=Ue hf
   exact absurd h5 (Gou hb he hl m' (hp.mem_iff.2 (List.mem_of_getElem? h4)))
theorem GqN {hn:Ht} {t:TypeId} {x key:AV} {a b':Value} {ok:Bool} {h:Hp} (hx:GX μ ro w true x a) (hk:GX μ ro w true key b') (hh:GS μ ro h w):
  (GoZ P hn t x key ok h).sat fun v=>∃ v',(Instr.lookup t a b' ok).run P w=.ok v' w∧GX μ ro w true v v':=by
 unfold GoZ
 split
 ·rename_i kt et hu
  split
  ·rename_i z hz
   split
   ·rename_i kd hd
    split
    ·rename_i hsome
     obtain ⟨b,hb⟩:=Option.isSome_iff_exists.1 hsome
     have hbb:=Gmr hk hb
     subst hbb
     have hzero:∀ w:World,(zeroValue et).run P w=.ok z w:=fun w=>by
      cases hi:P.info? et with
      | none=>rw [hi] at hz; cases hz
      | some i=>rw [hi] at hz; exact Yz hi hz w
     split
     ·cases hx
      refine W.sat_pure ⟨_,?_,GdO (Qi z)⟩
      have hf:(Instr.findKey kt b' ([]:List MapEntry)).run P w=.ok none w:=by
       exact ZB (μ:=μ) (ro:=ro) (w:=w) (es:=[]) hd hb (List.Perm.refl _) .nil w
      simp only [Instr.lookup,Sem.run_bind,Gx hu,Result.andThen_ok,Sem.run_pure,K4 hd hb,hf,hzero]
     ·rename_i id
      split
      ·rename_i kd' es hm
       split
       ·rename_i hkk
        have:=Gji hkk
        subst this
        refine W.sat_bind Gow fun r hr=>W.sat_pure ?_
        subst hr
        cases hx with
        | mapr hmu=>
         rename_i bl
         obtain ⟨ms,cl,p,g1,g2,g3,g4,g5,g6⟩:=hh.obsM id _ _ hm hmu
         have hget:(getObj bl.1).run P w=.ok (.map ms cl) w:=by simp [getObj,Sem.run,g1]
         have hfk:=ZB (P:=P) hd hb g2 g3 w
         rcases Gbz hb g2 g3 g6 with ⟨v,i,x,h1,h2,h3⟩ | ⟨h1,h2⟩
         ·rw [h1]
          refine ⟨_,?_,Gjy h3.up⟩
          rw [h2] at hfk
          simp only [Instr.lookup,Sem.run_bind,Gx hu,Result.andThen_ok,Sem.run_pure,hget,K4 hd hb,hfk]
         ·rw [h1]
          refine ⟨_,?_,GdO (Qi z)⟩
          rw [h2] at hfk
          simp only [Instr.lookup,Sem.run_bind,Gx hu,Result.andThen_ok,Sem.run_pure,hget,K4 hd hb,hfk,hzero]
       ·exact W.sat_fail
      ·split
       ·rename_i id' kd' es y hm
        split
        ·rename_i hkk
         simp only [Bool.and_eq_true] at hkk
         have hid:=Nat.eq_of_beq_eq_true hkk.1
         subst hid
         have:=Gji hkk.2
         subst this
         refine W.sat_bind Gow fun r hr=>W.sat_pure ?_
         subst hr
         cases hx with
         | mapr hmu=>
          rename_i bl
          rcases hh.obs _ _ hm with ⟨c,hc,hob⟩ | ⟨_,hab,_⟩
          rotate_left
          ·exact hab.elim
          obtain ⟨l,ms,cl,p,m0,e1,e2,g1,g2,g3,g4,g5,g6,g7⟩:=hob
          rw [hmu] at e1; cases e1
          have hget:(getObj bl.1).run P w=.ok (.map ms cl) w:=by rw [e2]; simp [getObj,Sem.run,g1]
          have hfk:=ZB (P:=P) hd hb g2 g3 w
          rcases Gbz hb g2 g3 g6 with ⟨v,i,x,h1,h2,h3⟩ | ⟨h1,h2⟩
          ·rw [h1]
           refine ⟨_,?_,Gjy h3.up⟩
           rw [h2] at hfk
           simp only [Instr.lookup,Sem.run_bind,Gx hu,Result.andThen_ok,Sem.run_pure,hget,K4 hd hb,hfk]
          ·rw [h1]
           refine ⟨_,?_,GdO (Qi z)⟩
           rw [h2] at hfk
           simp only [Instr.lookup,Sem.run_bind,Gx hu,Result.andThen_ok,Sem.run_pure,hget,K4 hd hb,hfk,hzero]
        ·exact W.sat_fail
       ·exact W.sat_fail
      ·exact W.sat_fail
     ·exact W.sat_fail
    ·exact W.sat_fail
   ·exact W.sat_fail
  ·exact W.sat_fail
 ·exact W.sat_fail
def Gkl (P:Program) (t:TypeId) (r:Option AV) (h:Hp):Option (AV×Hp):=
 match P.underlying t,r with
 | some (.map kt _),none=>match kdT P kt with | some kd=>some (.mapr h.nx,h.new (.map kd [])) | none=>none
 | _,_=>none
theorem GnX {t:TypeId} {r:Option AV} {r':Option Value} {h:Hp} {q:AV×Hp} (hq:Gkl P t r h=some q) (hr:r=none→r'=none) (hh:GS μ ro h w):KA P (Instr.makeMap t r') μ ro w h.nx q.1 q.2:=by
 unfold Gkl at hq
 split at hq
 ·rename_i kt et hu
  obtain rfl:=hr rfl
  split at hq
  ·rename_i kd hkd
   simp only [sJ] at hq
   subst hq
   refine ⟨.map (some w.heap.size),w.alloc (.map #[] 0),upd μ h.nx (w.heap.size,0),?_,Kj _ _,.mapr (J4 _ _),hh.new _ _ _ ⟨#[],0,[],ZY w _,List.Perm.refl _,.nil,fun e he=>by simp at he,by simp,by simp⟩,Fr.alloc hh _ _⟩
   simp only [Instr.makeMap,Sem.run_bind,Sem.run_pure,run_newObj,Result.andThen_ok]
   rfl
  ·cases hq
 ·cases hq
/-! ### an entry laid -/
def gUp (b x:Value) (m:MapEntry):MapEntry:=open Classical in if m.key=b then { m with val:=x } else m
theorem Gkj {b x:Value} {m:MapEntry}:(gUp b x m).born=m.born:=by unfold gUp; split <;> rfl
theorem Glp {b x:Value} {m:MapEntry} (h:m.key≠b):gUp b x m=m:=by unfold gUp; rw [if_neg h]
theorem Gs0 {b x:Value}:∀ {p:List MapEntry},(∀ m ∈ p,m.key≠b)→p.map (gUp b x)=p
 | [],_=>rfl
 | m::p,h=>by rw [List.map_cons,Glp (h m (by simp)),Gs0 (fun m hm=>h m (by simp [hm]))]
theorem Gm2 {kd:KK} {key v:AV} {b x:Value} (hb:G7 kd key=some b) (hv:GX μ ro w false v x):∀ {es:List (AV×AV)} {p:List MapEntry},K5 kd μ ro w es p→(es.map (·.1)).Nodup→Ja es key≠none→
  K5 kd μ ro w (YA es key v) (p.map (gUp b x))∧(YA es key v).map (·.1)=es.map (·.1)
 | _,_,.nil,_,h=>absurd rfl h
 | (k,y)::es,m::p,.cons hk hy he,hn,h=>by
  have hnp:=(K5.cons hk hy he).nodup hn
  simp only [List.map_cons,List.nodup_cons] at hn hnp
  unfold Ja at h
  unfold YA
  cases hq:Kx k key with
  | true=>
   have hmb:=(Q6 hk hb).1 hq
   have h2:p.map (gUp b x)=p:=Gs0 fun m' hm' e=>hnp.1 (List.mem_map.2 ⟨m',hm',e.trans hmb.symm⟩)
   rw [List.map_cons,h2]
   refine ⟨.cons ?_ ?_ he,rfl⟩
   ·unfold gUp; rw [if_pos hmb]; exact hk
   ·unfold gUp; rw [if_pos hmb]; exact hv
  | false=>
   rw [hq] at h
   have hmb:m.key≠b:=fun e=>by rw [(Q6 hk hb).2 e] at hq; cases hq
   obtain ⟨h1,h2⟩:=Gm2 hb hv he hn.2 h
   rw [List.map_cons,Glp hmb]
   refine ⟨.cons hk hy h1,?_⟩
   simp only [List.map_cons,h2]
theorem Gnq {kd:KK} {key v:AV} {b x:Value} {c:Nat} (hb:G7 kd key=some b) (hv:GX μ ro w false v x):∀ {es:List (AV×AV)} {p:List MapEntry},K5 kd μ ro w es p→Ja es key=none→
  K5 kd μ ro w (YA es key v) (p++[⟨b,x,c⟩])∧(YA es key v).map (·.1)=es.map (·.1)++[key]
 | _,_,.nil,_=>⟨.cons hb hv .nil,rfl⟩
 | (k,y)::es,m::p,.cons hk hy he,h=>by
  unfold Ja at h
  unfold YA
  cases hq:Kx k key with
  | true=>rw [hq] at h; cases h
  | false=>
   rw [hq] at h
   obtain ⟨h1,h2⟩:=Gnq (c:=c) hb hv he h
   refine ⟨.cons hk hy h1,?_⟩
   simp only [List.map_cons,h2,List.cons_append]
theorem GmB {ms:List MapEntry} {b x:Value} {i:Nat} {m:MapEntry} (hn:(ms.map (·.key)).Nodup) (hi:ms[i]?=some m) (hm:m.key=b):ms.modify i (fun e=>{ e with key:=b,val:=x })=ms.map (gUp b x):=by
 apply List.ext_getElem?
 intro q
 rw [List.getElem?_modify,List.getElem?_map]
 cases hq:ms[q]? with
 | none=>rfl
 | some m'=>
  by_cases e:i=q
  ·subst e
   rw [hi] at hq
   cases hq
   simp only [Option.map_some,if_true,gUp,if_pos hm]
   show some (MapEntry.mk b x m.born)=some (MapEntry.mk m.key x m.born)
   rw [hm]
  ·have:m'.key≠b:=fun e2=>e (Gm6 hn hi hq (hm.trans e2.symm))
   simp only [Option.map_some,if_neg e,Glp this]
   rfl
theorem Gah {kd:KK} {key:AV} {b:Value} (hb:G7 kd key=some b):∀ {es:List (AV×AV)},Ja es key=none→key ∉ es.map (·.1)
 | [],_=>by simp
 | (k,y)::es,h=>by
  unfold Ja at h
  split at h
  ·cases h
  ·rename_i hq
   simp only [List.map_cons,List.mem_cons,not_or]
   refine ⟨fun e=>?_,Gah hb h⟩
   subst e
   rw [Gso hb] at hq
   cases hq
def GgR (P:Program) (t:TypeId) (m key x:AV) (h:Hp):Option Hp:=
 match P.underlying t,m with
 | some (.map kt _),.mapr id=>
  match kdT P kt with
  | some kd=>
   match h.m.get id,(G7 kd key).isSome&&x.pl with
   | some (.map kd' es),true=>match Grx kd' kd with | true=>some (h.set id (.map kd (YA es key x))) | false=>none
   | _,_=>none
  | none=>none
 | _,_=>none
theorem GlP {t:TypeId} {m key x:AV} {a b' xv:Value} {h h':Hp} (hs:GgR P t m key x h=some h') (hm:GX μ ro w true m a) (hk:GX μ ro w true key b') (hx:GX μ ro w true x xv) (hh:GS μ ro h w):
  ∃ w',(Instr.mapUpdate t a b' xv).run P w=.ok () w'∧GS μ ro h' w'∧Fr μ ro w μ w':=by
 unfold GgR at hs
 split at hs
 ·rename_i kt et id hu
  split at hs
  ·rename_i kd hd
   split at hs
   ·rename_i kd' es hget hc
    split at hs
    ·rename_i hkk
     have:=Gji hkk
     subst this
     simp only [sJ] at hs
     subst hs
     simp only [Bool.and_eq_true] at hc
     obtain ⟨b,hb⟩:=Option.isSome_iff_exists.1 hc.1
     have hbb:=Gmr hk hb
     subst hbb
     have hxv:GX μ ro w false x xv:=hx.pl hc.2
     cases hm with
     | mapr hmu=>
      rename_i bl
      obtain ⟨ms,cl,p,g1,g2,g3,g4,g5,g6⟩:=hh.obsM id _ _ hget hmu
      have hlt:=hh.lt id bl hmu
      have hgo:(getObj bl.1).run P w=.ok (.map ms cl) w:=by simp [getObj,Sem.run,g1]
      have hfk:=ZB (P:=P) hd hb g2 g3 w
      have key:∀ (ms':Array MapEntry) (cl':Nat) (es':List (AV×AV)) (p':List MapEntry),p'.Perm ms'.toList→K5 kd' μ ro w es' p'→(∀ e ∈ ms'.toList,e.born<cl')→(ms'.toList.map (·.born)).Nodup→(es'.map (·.1)).Nodup→
        (setObj bl.1 (.map ms' cl')).run P w=.ok () { w with heap:=w.heap.setIfInBounds bl.1 (.map ms' cl') }∧GS μ ro (h.set id (.map kd' es')) { w with heap:=w.heap.setIfInBounds bl.1 (.map ms' cl') }∧Fr μ ro w μ { w with heap:=w.heap.setIfInBounds bl.1 (.map ms' cl') }:=by
       intro ms' cl' es' p' q1 q2 q3 q4 q5
       have hw1:∀ j,j≠bl.1→(w.heap.setIfInBounds bl.1 (.map ms' cl'))[j]?=w.heap[j]?:=fun j hj=>by rw [Array.getElem?_setIfInBounds_ne (Ne.symm hj)]
       have hw2:(w.heap.setIfInBounds bl.1 (.map ms' cl'))[bl.1]?=some (.map ms' cl'):=by rw [Array.getElem?_setIfInBounds_self_of_lt hlt]
       have hsz:(w.heap.setIfInBounds bl.1 (.map ms' cl')).size=w.heap.size:=by simp
       have hro:∀ j,ro j→(w.heap.setIfInBounds bl.1 (.map ms' cl'))[j]?=w.heap[j]?:=fun j hj=>hw1 j (fun e=>hh.own id _ bl hget hmu (e ▸ hj))
       refine ⟨by simp [setObj,Sem.run,g1],?_,Fr.write hmu rfl rfl rfl hsz (hh.own id _ bl hget hmu) hw1⟩
       exact hh.set hget hmu (Nat.le_of_eq hsz.symm) (fun j hj _=>hw1 j hj) ⟨ms',cl',p',hw2,q1,q2.mono (fun _ _ h=>h) (fun _ h=>h) hro,q3,q4,q5⟩
      rcases Gbz hb g2 g3 g6 with ⟨v,i,x0,h1,h2,h3⟩ | ⟨h1,h2⟩
      ·rw [h2] at hfk
       obtain ⟨-,m',h4,h5,rfl⟩:=Ue h2
       rw [Nat.sub_zero] at h4
       have hkn:(ms.toList.map (·.key)).Nodup:=(g2.map _).nodup_iff.1 (g3.nodup g6)
       have hmod:(ms.modify i fun e=>{ e with key:=b',val:=xv }).toList=ms.toList.map (gUp b' xv):=by
        rw [Array.toList_modify]; exact GmB hkn h4 h5
       obtain ⟨k1,k2⟩:=Gm2 hb hxv g3 g6 (by rw [h1]; simp)
       obtain ⟨q1,q2,q3⟩:=key (ms.modify i fun e=>{ e with key:=b',val:=xv }) cl (YA es _ _) _ (by rw [hmod]; exact g2.map _) k1 (fun e he=>by
        rw [hmod] at he
        obtain ⟨e',he',rfl⟩:=List.mem_map.1 he
        rw [Gkj]; exact g4 e' he') (by
        rw [hmod,List.map_map]
        have:((fun e:MapEntry=>e.born) ∘ gUp b' xv)=(fun e:MapEntry=>e.born):=funext fun e=>Gkj
        rw [this]; exact g5) (by rw [k2]; exact g6)
       refine ⟨_,?_,q2,q3⟩
       have h4':ms[i]?=some m':=by rw [← Array.getElem?_toList]; exact h4
       simp only [Instr.mapUpdate,Sem.run_bind,Gx hu,Result.andThen_ok,Sem.run_pure,hgo,K4 hd hb,hfk,h4',Option.map_some,Option.getD_some,h5,Gm7 hb,q1]
      ·rw [h2] at hfk
       obtain ⟨k1,k2⟩:=Gnq (c:=cl) hb hxv g3 h1
       obtain ⟨q1,q2,q3⟩:=key (ms.push ⟨b',xv,cl⟩) (cl+1) (YA es _ _) _ (by rw [Array.toList_push]; exact g2.append_right _) k1 (fun e he=>by
        rw [Array.toList_push,List.mem_append] at he
        rcases he with he | he
        ·have:=g4 e he; omega
        ·simp at he; subst he; exact Nat.lt_succ_self _) (by
        rw [Array.toList_push,List.map_append,List.map_cons,List.map_nil,List.nodup_append]
        refine ⟨g5,by simp,fun a ha c hc e=>?_⟩
        simp at hc
        obtain ⟨e',he',rfl⟩:=List.mem_map.1 ha
        have:=g4 e' he'
        omega) (by
        rw [k2,List.nodup_append]
        refine ⟨g6,by simp,fun a ha c hc e=>?_⟩
        simp at hc
        subst hc; subst e
        exact Gah hb h1 ha)
       refine ⟨_,?_,q2,q3⟩
       simp only [Instr.mapUpdate,Sem.run_bind,Gx hu,Result.andThen_ok,Sem.run_pure,hgo,K4 hd hb,hfk,q1]
    ·cases hs
   ·cases hs
  ·cases hs
 ·cases hs
/-! ### an entry taken away -/
def Gt9:List (AV×AV)→AV→List (AV×AV)
 | [],_=>[]
 | (k,v)::es,key=>match Kx k key with | true=>es | false=>(k,v)::Gt9 es key
def Gny (b:Value) (p:List MapEntry):List MapEntry:=open Classical in p.filter fun m=>decide (m.key≠b)
theorem Gk8 {b:Value}:∀ {p:List MapEntry},(∀ m ∈ p,m.key≠b)→Gny b p=p:=fun {p} h=>by
 unfold Gny
 rw [List.filter_eq_self]
 intro m hm
 simpa using h m hm
theorem Glk {b:Value} {m:MapEntry} {p:List MapEntry}:Gny b (m::p)=open Classical in if m.key=b then Gny b p else m::Gny b p:=by
 unfold Gny
 by_cases h:m.key=b <;> simp [List.filter_cons,h]
theorem Grg {kd:KK} {key:AV} {b:Value} (hb:G7 kd key=some b):∀ {es:List (AV×AV)} {p:List MapEntry},K5 kd μ ro w es p→(es.map (·.1)).Nodup→K5 kd μ ro w (Gt9 es key) (Gny b p)∧(Gt9 es key).Sublist es
 | _,_,.nil,_=>⟨.nil,List.Sublist.refl _⟩
 | (k,y)::es,m::p,.cons hk hy he,hn=>by
  have hnp:=(K5.cons hk hy he).nodup hn
  simp only [List.map_cons,List.nodup_cons] at hn hnp
  unfold Gt9
  rw [Glk]
  cases hq:Kx k key with
  | true=>
   have hmb:=(Q6 hk hb).1 hq
   rw [if_pos hmb,Gk8 fun m' hm' e=>hnp.1 (List.mem_map.2 ⟨m',hm',e.trans hmb.symm⟩)]
   exact ⟨he,List.sublist_cons_self _ _⟩
  | false=>
   have hmb:m.key≠b:=fun e=>by rw [(Q6 hk hb).2 e] at hq; cases hq
   obtain ⟨h1,h2⟩:=Grg hb he hn.2
   rw [if_neg hmb]
   exact ⟨.cons hk hy h1,h2.cons_cons _⟩
theorem Gof {b:Value}:∀ {ms:List MapEntry} {i:Nat} {m:MapEntry},(ms.map (·.key)).Nodup→ms[i]?=some m→m.key=b→ms.eraseIdx i=Gny b ms
 | [],i,m,_,h,_=>by simp at h
 | x::ms,0,m,hn,h,hm=>by
  simp only [List.getElem?_cons_zero,sJ] at h
  subst h
  simp only [List.map_cons,List.nodup_cons] at hn
  rw [Glk,if_pos hm,List.eraseIdx_cons_zero,Gk8 fun m' hm' e=>hn.1 (List.mem_map.2 ⟨m',hm',e.trans hm.symm⟩)]
 | x::ms,i+1,m,hn,h,hm=>by
  simp only [List.getElem?_cons_succ] at h
  simp only [List.map_cons,List.nodup_cons] at hn
  have hx:x.key≠b:=fun e=>hn.1 (List.mem_map.2 ⟨m,List.mem_of_getElem? h,hm.trans e.symm⟩)
  rw [Glk,if_neg hx,List.eraseIdx_cons_succ,Gof hn.2 h hm]
def Gmv (P:Program) (t:TypeId) (m key:AV) (h:Hp):Option Hp:=
 match P.underlying t,m with
 | some (.map kt _),.mapr id=>
  match kdT P kt with
  | some kd=>
   match h.m.get id,(G7 kd key).isSome with
   | some (.map kd' es),true=>match Grx kd' kd with | true=>some (h.set id (.map kd (Gt9 es key))) | false=>none
   | _,_=>none
  | none=>none
 | _,_=>none
theorem GqF {ts:Array TypeId} {ty t:TypeId} {m key:AV} {a b':Value} {h h':Hp} (ht:ts[0]?=some t) (hs:Gmv P t m key h=some h') (hm:GX μ ro w true m a) (hk:GX μ ro w true key b') (hh:GS μ ro h w):
  ∃ w',(Builtin.delete_ ts ty #[a,b']).run P w=.ok (.tuple #[]) w'∧GS μ ro h' w'∧Fr μ ro w μ w':=by
 unfold Gmv at hs
 split at hs
 ·rename_i kt et id hu
  split at hs
  ·rename_i kd hd
   split at hs
   ·rename_i kd' es hget hc
    split at hs
    ·rename_i hkk
     have:=Gji hkk
     subst this
     simp only [sJ] at hs
     subst hs
     obtain ⟨b,hb⟩:=Option.isSome_iff_exists.1 hc
     have hbb:=Gmr hk hb
     subst hbb
     cases hm with
     | mapr hmu=>
      rename_i bl
      obtain ⟨ms,cl,p,g1,g2,g3,g4,g5,g6⟩:=hh.obsM id _ _ hget hmu
      have hlt:=hh.lt id bl hmu
      have hgo:(getObj bl.1).run P w=.ok (.map ms cl) w:=by simp [getObj,Sem.run,g1]
      have hfk:=ZB (P:=P) hd hb g2 g3 w
      have hkn:(ms.toList.map (·.key)).Nodup:=(g2.map _).nodup_iff.1 (g3.nodup g6)
      obtain ⟨k1,k2⟩:=Grg hb g3 g6
      have key:∀ (ms':Array MapEntry),ms'.toList=Gny b' ms.toList→
        (setObj bl.1 (.map ms' cl)).run P w=.ok () { w with heap:=w.heap.setIfInBounds bl.1 (.map ms' cl) }∧GS μ ro (h.set id (.map kd' (Gt9 es key))) { w with heap:=w.heap.setIfInBounds bl.1 (.map ms' cl) }∧Fr μ ro w μ { w with heap:=w.heap.setIfInBounds bl.1 (.map ms' cl) }:=by
       intro ms' hms
       have hw1:∀ j,j≠bl.1→(w.heap.setIfInBounds bl.1 (.map ms' cl))[j]?=w.heap[j]?:=fun j hj=>by rw [Array.getElem?_setIfInBounds_ne (Ne.symm hj)]
       have hw2:(w.heap.setIfInBounds bl.1 (.map ms' cl))[bl.1]?=some (.map ms' cl):=by rw [Array.getElem?_setIfInBounds_self_of_lt hlt]
       have hsz:(w.heap.setIfInBounds bl.1 (.map ms' cl)).size=w.heap.size:=by simp
       have hro:∀ j,ro j→(w.heap.setIfInBounds bl.1 (.map ms' cl))[j]?=w.heap[j]?:=fun j hj=>hw1 j (fun e=>hh.own id _ bl hget hmu (e ▸ hj))
       have hsub:(Gny b' ms.toList).Sublist ms.toList:=List.filter_sublist
       refine ⟨by simp [setObj,Sem.run,g1],?_,Fr.write hmu rfl rfl rfl hsz (hh.own id _ bl hget hmu) hw1⟩
       refine hh.set hget hmu (Nat.le_of_eq hsz.symm) (fun j hj _=>hw1 j hj) ⟨ms',cl,Gny b' p,hw2,?_,k1.mono (fun _ _ h=>h) (fun _ h=>h) hro,?_,?_,?_⟩
       ·rw [hms]; exact g2.filter _
       ·rw [hms]; exact fun e he=>g4 e (hsub.subset he)
       ·rw [hms]; exact (hsub.map _).nodup g5
       ·exact (k2.map _).nodup g6
      have run:∀ (ms':Array MapEntry) (o:Option (Nat×Value)),QI b' ms.toList 0=o→(match o with | some (i,_)=>ms'=ms.eraseIdxIfInBounds i | none=>ms'=ms)→
        (Builtin.delete_ ts ty #[.map (some bl.1),b']).run P w=((setObj bl.1 (.map ms' cl)).run P w).andThen fun _ w'=>.ok (.tuple #[]) w':=by
       intro ms' o ho hm'
       rw [ho] at hfk
       unfold Builtin.delete_
       simp only [ht,List.getElem?_toArray,List.getElem?_cons_zero,List.getElem?_cons_succ,Sem.run_bind,Gx hu,Result.andThen_ok,hgo,K4 hd hb,hfk]
       cases o with
       | none=>simp only at hm'; subst hm'; simp only [Sem.run_bind,Sem.run_pure]
       | some q=>obtain ⟨i,x⟩:=q; simp only at hm'; subst hm'; simp only [Sem.run_bind,Sem.run_pure]
      cases hf:QI b' ms.toList 0 with
      | none=>
       obtain ⟨q1,q2,q3⟩:=key ms (Gk8 (GfW hf)).symm
       refine ⟨_,?_,q2,q3⟩
       rw [run ms none hf rfl,q1]; rfl
      | some q=>
       obtain ⟨i,x⟩:=q
       obtain ⟨-,m',h4,h5,rfl⟩:=Ue hf
       rw [Nat.sub_zero] at h4
       obtain ⟨q1,q2,q3⟩:=key (ms.eraseIdxIfInBounds i) (by rw [Array.toList_eraseIdxIfInBounds]; exact Gof hkn h4 h5)
       refine ⟨_,?_,q2,q3⟩
       rw [run _ (some (i,m'.val)) hf rfl,q1]; rfl
    ·cases hs
   ·cases hs
  ·cases hs
 ·cases hs
/-! ### a copy -/
def Gpc (P:Program) (f:FuncId):Bool:=
 match P.funcs[f]? with
 | some fn=>fn.body.isNone&&(fn.name == "maps.clone" && (Extern.allNextRows.lookup fn.origin).isNone)
 | none=>false
def Gr0 (args:List AV) (h:Hp):Option (AV×Hp):=
 match args with
 | [.ifc t (.mapr id)]=>match h.m.get id with | some (.map kd es)=>some (.ifc t (.mapr h.nx),h.new (.map kd es)) | _=>none
 | _=>none
theorem Gq3 {f:FuncId} (h:Gpc P f=true) (args:Array Value) (w:World):(callFunc f args).run P w=((Extern.MapsClone.clone args).run P w).andThen fun v w'=>.ok (.value v) w':=by
 unfold Gpc at h
 split at h
 ·rename_i fn hf
  simp only [Bool.and_eq_true] at h
  obtain ⟨h1,h2,h3⟩:=h
  have hn:fn.name = "maps.clone" := by simpa using h2
  have h3':Extern.allNextRows.lookup fn.origin=none:=by simpa using h3
  refine run_callFunc_extern hf (by rw [hn]; rfl) h1 ?_ ?_ args w
  ·unfold Extern.findNext
   simp only [hn,h3']
   rfl
  ·unfold Extern.find
   simp only [hn]
   have e1:Extern.allGenericRows.lookup "maps.clone" = none:=by rfl
   have e2:Extern.allTypedRows.lookup "maps.clone" = none:=by rfl
   have e3:Extern.allRows.lookup "maps.clone" = some Extern.MapsClone.clone:=by rfl
   rw [e1,e2,e3]
   rfl
 ·cases h
theorem Gsf {args:List AV} {vs:Array Value} {h:Hp} {r:AV×Hp} (hs:Gr0 args h=some r) (ha:GR μ ro w true args vs.toList) (hh:GS μ ro h w):KA P (Extern.MapsClone.clone vs) μ ro w h.nx r.1 r.2:=by
 unfold Gr0 at hs
 split at hs
 ·rename_i t id
  split at hs
  ·rename_i kd es hm
   simp only [sJ] at hs
   subst hs
   obtain ⟨x,rest,hv,hx,hr⟩:=ha.head
   have hn:rest=[]:=List.length_eq_zero_iff.1 (by simpa using hr.1)
   subst hn
   cases hx with
   | ifc hx=>
    rename_i y
    cases hx with
    | mapr hmu=>
     rename_i b
     obtain ⟨ms,cl,p,g1,g2,g3,g4⟩:=hh.obsM id _ _ hm hmu
     have hvs:vs=#[.iface t (.map (some b.1))]:=by
      have:=congrArg List.toArray hv
      simpa using this
     subst hvs
     refine ⟨.iface t (.map (some w.heap.size)),w.alloc (.map ms cl),upd μ h.nx (w.heap.size,0),?_,Kj _ _,.ifc (.mapr (J4 _ _)),hh.new _ _ _ ⟨ms,cl,p,ZY w _,g2,g3.mono (Gfu hh _) (fun _ h=>h) (fun b hb=>Below.heap_alloc _ _ _ (hh.old b hb)),g4⟩,Fr.alloc hh _ _⟩
     have e:Extern.MapsClone.clone #[.iface t (.map (some b.1))]=(getObj b.1 >>= fun o=>match o with
       | .map entries clock=>(newObj (.map entries clock) >>= fun n=>pure (.iface t (.map (some n))))
       | _=>stuck "maps.clone: a map expected"):=rfl
     have hgo:(getObj b.1).run P w=.ok (.map ms cl) w:=by simp [getObj,Sem.run,g1]
     rw [e]
     simp only [Sem.run_bind,hgo,Result.andThen_ok,run_newObj,Sem.run_pure]
     rfl
  ·cases hs
 ·cases hs
/-! ### the first place of a byte in a string (the model stands in) -/
def GuE (c:UInt8):List UInt8→Nat→Int
 | [],_ => -1
 | b::l,k=>match b==c with | true=>(k:Int) | false=>GuE c l (k+1)
theorem GoN {c:UInt8} {f:Nat→Bool}:∀ (l:List UInt8) (k:Nat),(∀ i,i<l.length→f (k+i)=(l.getD i 0==c))→
  (match (List.range' k l.length).find? f with | some i=>(i:Int) | none => -1)=GuE c l k
 | [],k,_=>rfl
 | b::l,k,h=>by
  have h0:f k=(b==c):=by have:=h 0 (Nat.zero_lt_succ _); simpa using this
  have ih:=GoN (c:=c) (f:=f) l (k+1) fun i hi=>by
   have:=h (i+1) (Nat.succ_lt_succ hi)
   rw [Nat.add_assoc,Nat.add_comm 1 i]
   simpa using this
  rw [List.length_cons,List.range'_succ,List.find?_cons]
  unfold GuE
  cases hb:b==c with
  | true=>rw [h0,hb]
  | false=>rw [h0,hb]; exact ih
theorem GqZ {s:List UInt8} {b:ByteArray} {c:UInt8} (h:b.data.toList=s):firstIdx b c=GuE c s 0:=by
 subst h
 have hs:b.size=b.data.toList.length:=rfl
 unfold firstIdx
 rw [hs,List.range_eq_range']
 refine GoN _ 0 fun i hi=>?_
 rw [Nat.zero_add]
 have:b[i]! = b.data.toList.getD i 0:=by
  have hi':i<b.size:=by rw [hs]; exact hi
  rw [getElem!_pos b i hi',List.getD_eq_getElem?_getD,List.getElem?_eq_getElem hi]
  rfl
 rw [this]
def Guv (P:Program) (f:FuncId):Bool:=
 match P.funcs[f]? with
 | some fn=>fn.body.isNone&&(fn.name == "internal/bytealg.IndexByteString" && (Extern.allNextRows.lookup fn.origin).isNone)
 | none=>false
def Gpy (args:List AV):Option AV:=
 match args with
 | [.str s,.int .u8 c]=>some (.int .i64 (GuE c.toNat.toUInt8 s 0))
 | _=>none
theorem GtU {f:FuncId} (h:Guv P f=true) (args:Array Value) (w:World):(callFunc f args).run P w=((Extern.BytealgIndexByte.indexByte args).run P w).andThen fun v w'=>.ok (.value v) w':=by
 unfold Guv at h
 split at h
 ·rename_i fn hf
  simp only [Bool.and_eq_true] at h
  obtain ⟨h1,h2,h3⟩:=h
  have hn:fn.name = "internal/bytealg.IndexByteString" := eq_of_beq h2
  have h3':Extern.allNextRows.lookup fn.origin=none:=Option.isNone_iff_eq_none.1 h3
  refine run_callFunc_extern hf (by rw [hn]; rfl) h1 ?_ ?_ args w
  ·unfold Extern.findNext
   simp only [hn,h3']
   rfl
  ·unfold Extern.find
   simp only [hn]
   have e1:Extern.allGenericRows.lookup "internal/bytealg.IndexByteString" = none:=by rfl
   have e2:Extern.allTypedRows.lookup "internal/bytealg.IndexByteString" = none:=by rfl
   have e3:Extern.allRows.lookup "internal/bytealg.IndexByteString" = some Extern.BytealgIndexByte.indexByte:=by rfl
   rw [e1,e2,e3]
   rfl
 ·cases h
theorem GqE {args:List AV} {vs:Array Value} {r:AV} (hs:Gpy args=some r) (ha:GR μ ro w true args vs.toList):
  ∃ v,(Extern.BytealgIndexByte.indexByte vs).run P w=.ok v w∧GX μ ro w true r v:=by
 unfold Gpy at hs
 split at hs
 ·rename_i s0 n0
  simp only [sJ] at hs
  subst hs
  obtain ⟨x,rest,hv,hx,hr⟩:=ha.head
  obtain ⟨y,rest2,hv2,hy,hr2⟩:=hr.head
  have hn:rest2=[]:=List.length_eq_zero_iff.1 (by simpa using hr2.1)
  subst hn; subst hv2
  cases hx with
  | str hb=>
   rename_i b
   cases hy
   have hvs:vs=#[.string b,.int .u8 n0]:=by have:=congrArg List.toArray hv; simpa using this
   subst hvs
   exact ⟨_,run_indexByte_string _ _ w,by rw [GqZ hb]; exact .int⟩
 ·cases hs
def GgQ (P:Program) (t:TypeId) (x:AV) (h:Hp):Option AV:=
 match P.underlying t,x with
 | some (.map _ _),.nilm=>some (.int .i64 0)
 | some (.map _ _),.mapr id=>match h.m.get id with | some (.map _ es)=>some (.int .i64 (es.length:Int)) | _=>none
 | _,_=>none
theorem K5.length {kd:KK}:∀ {es:List (AV×AV)} {p:List MapEntry},K5 kd μ ro w es p→p.length=es.length
 | _,_,.nil=>rfl
 | _,_,.cons _ _ h=>by simp [h.length]
theorem GlC {ts:Array TypeId} {ty t:TypeId} {x v:AV} {a:Value} {h:Hp} (ht:ts[0]?=some t) (hv:GgQ P t x h=some v) (hx:GX μ ro w true x a) (hh:GS μ ro h w):
  ∃ v',(Builtin.len_ ts ty #[a]).run P w=.ok v' w∧GX μ ro w true v v':=by
 unfold GgQ at hv
 split at hv
 ·rename_i hu
  simp only [sJ] at hv
  subst hv
  cases hx
  refine ⟨goInt 0,?_,.int⟩
  simp only [Builtin.len_,ht,List.getElem?_toArray,List.getElem?_cons_zero,Sem.run_bind,Gx hu,Result.andThen_ok]
  rfl
 ·rename_i id hu
  split at hv
  ·rename_i kd es hm
   simp only [sJ] at hv
   subst hv
   cases hx with
   | mapr hmu=>
    rename_i bl
    obtain ⟨ms,cl,p,g1,g2,g3,g4⟩:=hh.obsM id _ _ hm hmu
    have hl:ms.size=es.length:=by rw [← g3.length,g2.length_eq,Array.length_toList]
    have hgo:(getObj bl.1).run P w=.ok (.map ms cl) w:=by simp [getObj,Sem.run,g1]
    refine ⟨goInt ms.size,?_,?_⟩
    ·simp only [Builtin.len_,ht,List.getElem?_toArray,List.getElem?_cons_zero,Sem.run_bind,Gx hu,Result.andThen_ok,hgo,Sem.run_pure]
    ·rw [hl]; exact .int
  ·cases hv
 ·cases hv
/-! ### the entry an iterator stands at -/
theorem Gn9 {s:Nat}:∀ {ms:List MapEntry} {i:Nat} {e:MapEntry},(ms.map (·.born)).Nodup→ms[i]?=some e→e.born=s→ms.find? (fun x=>x.born==s)=some e
 | [],i,e,_,h,_=>by simp at h
 | m::ms,0,e,_,h,hb=>by simp only [List.getElem?_cons_zero,sJ] at h; subst h; simp [hb]
 | m::ms,i+1,e,hn,h,hb=>by
  simp only [List.map_cons,List.nodup_cons] at hn
  simp only [List.getElem?_cons_succ] at h
  have hne:¬ m.born=s:=fun q=>hn.1 (by rw [q,← hb]; exact List.mem_map.2 ⟨e,List.mem_of_getElem? h,rfl⟩)
  rw [List.find?_cons_of_neg (by simpa using hne)]
  exact Gn9 hn.2 h hb
theorem K5.at {kd:KK}:∀ {es:List (AV×AV)} {ms:List MapEntry} {i:Nat} {k v:AV} {e:MapEntry},K5 kd μ ro w es ms→es[i]?=some (k,v)→ms[i]?=some e→G7 kd k=some e.key∧GX μ ro w false v e.val
 | _,_,i,_,_,_,.nil,h,_=>by simp at h
 | _,_,0,_,_,_,.cons hk hv _,h,h'=>by simp only [List.getElem?_cons_zero,sJ] at h h'; cases h; cases h'; exact ⟨hk,hv⟩
 | _,_,i+1,_,_,_,.cons _ _ he,h,h'=>he.at (by simpa using h) (by simpa using h')
def Gxo (es:List (AV×AV)) (ms:List MapEntry) (seen:List Nat) (k v:AV):Prop:=
 ∃ (i:Nat) (e:MapEntry),ms[i]?=some e∧es[i]?=some (k,v)∧seen.getLast?=some e.born
def GrF (hn:Ht) (x:AV) (h:Hp):W AV:=
 match x,hn with
 | .ptr id 0,.v [.mapr mid,k,v]=>
  match h.m.get id,h.m.get mid with
  | some (.mit m _ seen cl),some (.rm m' _ es ms cl')=>(W.owe (m=m'∧cl=cl'∧Gxo es ms seen k v)).bind fun _=>W.pure (.tup [k,v])
  | _,_=>W.fail
 | _,_=>W.fail
theorem Gsx {hn:Ht} {x:AV} {a:Value} {h:Hp} (hx:GX μ ro w true x a) (hh:GS μ ro h w):(GrF hn x h).sat fun v=>∃ v',(Instr.entry a).run P w=.ok v' w∧GX μ ro w true v v':=by
 unfold GrF
 split
 ·rename_i id mid k v
  split
  ·rename_i m since seen cl m' kd es ms cl' hi hm
   refine W.sat_bind W.sat_owe fun _ ⟨e1,e2,i,e,h1,h2,h3⟩=>W.sat_pure ?_
   subst e1; subst e2
   cases hx with
   | ptr hb=>
    rename_i b
    have hit:w.heap[b.1]?=some (.mapIter (some m) since seen.toArray cl):=hh.obsM id _ _ hi hb
    obtain ⟨bm,hbm,g⟩:∃ bm,μ mid=some bm∧Gns μ ro w bm m kd es ms cl:=by
     rcases hh.obs mid _ hm with h | ⟨_,h,_⟩
     ·exact h
     ·exact h.elim
    obtain ⟨g0,g1,g2,g3,g4,g5⟩:=g
    rw [g0] at g1
    have hg1:(getObj b.1).run P w=.ok (.mapIter (some m) since seen.toArray cl) w:=by simp [getObj,Sem.run,hit]
    have hg2:(getObj m).run P w=.ok (.map ms.toArray cl) w:=by simp [getObj,Sem.run,g1]
    obtain ⟨q1,q2⟩:=g2.at h2 h1
    have hbk:seen.toArray.back?=some e.born:=by simpa [Array.back?,List.getLast?_eq_getElem?] using h3
    have hf:ms.toArray.find? (fun x=>x.born==e.born)=some e:=by
     rw [List.find?_toArray]; exact Gn9 g4 h1 rfl
    refine ⟨.tuple #[e.key,e.val],?_,(GR.cons (Gss q1) (GR.cons q2.up GR.nil)).tup⟩
    simp only [Instr.entry,Sem.run_bind,hg1,hg2,Result.andThen_ok,hbk,hf,bne_self_eq_false,if_false,Bool.false_eq_true,Sem.run_pure]
  ·exact W.sat_fail
 ·exact W.sat_fail
end
noncomputable section
open Go.RowKit
variable {P:Program} {G:Nat→AV} {μ μ':Nat→Option HI} {ro ro':Nat→Prop} {w w':World}
def GgP (P:Program) (t:TypeId) (m key:AV) (h:Hp):Option (AV×Hp):=
 match P.underlying t,m with
 | some (.map kt et),.mapr id=>
  match (P.info? et).bind (·.zero),kdT P kt with
  | some z,some kd=>
   match h.m.get id,(G7 kd key).isSome&&(cst z).pl with
   | some (.map kd' es),true=>
    match Grx kd' kd with
    | true=>
     match Ja es key with
     | some x=>some (.tup [x,.stp h.nx],(h.del id).new (.mst id kd es key))
     | none=>some (.tup [cst z,.stp h.nx],(h.del id).new (.mst id kd (YA es key (cst z)) key))
    | false=>none
   | _,_=>none
  | _,_=>none
 | _,_=>none
theorem Grj {α:Type} {ms:Array α} {i:Nat} {m:α} {f:α→α} (hi:ms[i]?=some m) (hf:f m=m):ms.modify i f=ms:=by
 apply Array.ext_getElem?
 intro q
 rw [Array.getElem?_modify]
 split
 ·rename_i e
  subst e
  rw [hi,Option.map_some,hf]
 ·rfl
theorem Gnz {t:TypeId} {m key:AV} {a b':Value} {h:Hp} {r:AV×Hp} (hs:GgP P t m key h=some r) (hm:GX μ ro w true m a) (hk:GX μ ro w true key b') (hh:GS μ ro h w):
  KA P (Instr.mapEntry t a b') μ ro w h.nx r.1 r.2:=by
 unfold GgP at hs
 split at hs
 ·rename_i kt et id hu
  split at hs
  ·rename_i z kd hz hd
   split at hs
   ·rename_i kd' es hget hc
    split at hs
    ·rename_i hkk
     have:=Gji hkk
     subst this
     simp only [Bool.and_eq_true] at hc
     obtain ⟨b,hb⟩:=Option.isSome_iff_exists.1 hc.1
     have hbb:=Gmr hk hb
     subst hbb
     have hzero:∀ w:World,(zeroValue et).run P w=.ok z w:=fun w=>by
      cases hi:P.info? et with
      | none=>rw [hi] at hz; cases hz
      | some i=>rw [hi] at hz; exact Yz hi hz w
     have hzr:GX μ ro w false (cst z) z:=(Qi z:GX μ ro w true (cst z) z).pl hc.2
     cases hm with
     | mapr hmu=>
      rename_i bl
      obtain ⟨ms,cl,p,g1,g2,g3,g4,g5,g6⟩:=hh.obsM id _ _ hget hmu
      have hlt:=hh.lt id bl hmu
      have hgo:(getObj bl.1).run P w=.ok (.map ms cl) w:=by simp [getObj,Sem.run,g1]
      have hfk:=ZB (P:=P) hd hb g2 g3 w
      have hown:=hh.own id _ bl hget hmu
      have hdel:=hh.del id
      have key:∀ (ms':Array MapEntry) (cl':Nat) (es':List (AV×AV)) (p':List MapEntry) (m0:MapEntry),p'.Perm ms'.toList→K5 kd' μ ro w es' p'→(∀ e ∈ ms'.toList,e.born<cl')→(ms'.toList.map (·.born)).Nodup→(es'.map (·.1)).Nodup→m0 ∈ ms'.toList→m0.key=b'→
        (setObj bl.1 (.map ms' cl')).run P w=.ok () { w with heap:=w.heap.setIfInBounds bl.1 (.map ms' cl') }∧GS (upd μ h.nx (bl.1,m0.born)) ro ((h.del id).new (.mst id kd' es' key)) { w with heap:=w.heap.setIfInBounds bl.1 (.map ms' cl') }∧Fr μ ro w (upd μ h.nx (bl.1,m0.born)) { w with heap:=w.heap.setIfInBounds bl.1 (.map ms' cl') }:=by
       intro ms' cl' es' p' m0 q1 q2 q3 q4 q5 q6 q7
       have hw1:∀ j,j≠bl.1→(w.heap.setIfInBounds bl.1 (.map ms' cl'))[j]?=w.heap[j]?:=fun j hj=>by rw [Array.getElem?_setIfInBounds_ne (Ne.symm hj)]
       have hw2:(w.heap.setIfInBounds bl.1 (.map ms' cl'))[bl.1]?=some (.map ms' cl'):=by rw [Array.getElem?_setIfInBounds_self_of_lt hlt]
       have hsz:(w.heap.setIfInBounds bl.1 (.map ms' cl')).size=w.heap.size:=by simp
       have hro:∀ j,ro j→(w.heap.setIfInBounds bl.1 (.map ms' cl'))[j]?=w.heap[j]?:=fun j hj=>hw1 j (fun e=>hown (e ▸ hj))
       have hle:=Gfu hdel (bl.1,m0.born)
       refine ⟨by simp [setObj,Sem.run,g1],?_,⟨rfl,rfl,rfl,Nat.le_of_eq hsz.symm,hro,fun c _ hn=>hw1 c (fun e=>hn id bl hmu e.symm),fun i l hi=>?_⟩⟩
       ·refine hdel.add (.mst id kd' es' key) (bl.1,m0.born) (Nat.le_of_eq hsz.symm) (by simpa using hlt) (fun i k' c hi hc e=>?_) hown (fun j hj _=>hw1 j hj) ⟨bl,ms',cl',p',m0,hle _ _ hmu,rfl,hw2,q1,q2.mono hle (fun _ h=>h) hro,q3,q4,q5,q6,rfl,by rw [q7]; exact hb⟩
        simp only [Hp.del,Tr.get_put] at hi
        split at hi
        ·cases hi
        ·rename_i hne
         exact hne (hh.inj i id k' _ c bl hi hget hc hmu e)
       ·unfold upd at hi
        split at hi
        ·simp only [sJ] at hi; subst hi; exact .inl ⟨id,bl,hmu,rfl⟩
        ·exact .inl ⟨i,l,hi,rfl⟩
      rcases Gbz hb g2 g3 g6 with ⟨v,i,x0,h1,h2,h3⟩ | ⟨h1,h2⟩
      ·rw [h1] at hs
       simp only [sJ] at hs
       subst hs
       rw [h2] at hfk
       obtain ⟨-,m',h4,h5,rfl⟩:=Ue h2
       rw [Nat.sub_zero] at h4
       have h4':ms[i]?=some m':=by rw [← Array.getElem?_toList]; exact h4
       have hmod:(ms.modify i fun e=>{ e with key:=b' })=ms:=Grj h4' (by rw [← h5])
       obtain ⟨q1,q2,q3⟩:=key ms cl es p m' g2 g3 g4 g5 g6 (List.mem_of_getElem? h4) h5
       refine ⟨.tuple #[m'.val,goInt m'.born],_,_,?_,Kj _ _,?_,q2,q3⟩
       ·simp only [Instr.mapEntry,Sem.run_bind,Gx hu,Result.andThen_ok,Sem.run_pure,hgo,K4 hd hb,hfk,h4',Option.map_some,Option.getD_some,h5,Gm7 hb,hmod,q1]
       ·have hro:=q3.block
        exact (GR.cons ((h3.mono (Gfu hdel _) (fun _ h=>h) hro).up) (GR.cons (.stp (J4 _ _)) GR.nil)).tup
      ·rw [h1] at hs
       simp only [sJ] at hs
       subst hs
       rw [h2] at hfk
       obtain ⟨k1,k2⟩:=Gnq (c:=cl) hb hzr g3 h1
       obtain ⟨q1,q2,q3⟩:=key (ms.push ⟨b',z,cl⟩) (cl+1) (YA es _ _) _ ⟨b',z,cl⟩ (by rw [Array.toList_push]; exact g2.append_right _) k1 (fun e he=>by
        rw [Array.toList_push,List.mem_append] at he
        rcases he with he | he
        ·have:=g4 e he; omega
        ·simp at he; subst he; exact Nat.lt_succ_self _) (by
        rw [Array.toList_push,List.map_append,List.map_cons,List.map_nil,List.nodup_append]
        refine ⟨g5,by simp,fun a ha c hc e=>?_⟩
        simp at hc
        obtain ⟨e',he',rfl⟩:=List.mem_map.1 ha
        have:=g4 e' he'
        omega) (by
        rw [k2,List.nodup_append]
        refine ⟨g6,by simp,fun a ha c hc e=>?_⟩
        simp at hc
        subst hc; subst e
        exact Gah hb h1 ha) (by simp) rfl
       refine ⟨.tuple #[z,goInt cl],_,_,?_,Kj _ _,?_,q2,q3⟩
       ·simp only [Instr.mapEntry,Sem.run_bind,Gx hu,Result.andThen_ok,Sem.run_pure,hgo,K4 hd hb,hfk,hzero,q1]
       ·exact (GR.cons (Qi z) (GR.cons (.stp (J4 _ _)) GR.nil)).tup
    ·cases hs
   ·cases hs
  ·cases hs
 ·cases hs
def Gbw (m s x:AV) (h:Hp):Option Hp:=
 match m,s with
 | .mapr id,.stp q=>
  match h.m.get q with
  | some (.mst id' kd es key)=>
   match Nat.beq id id'&&((G7 kd key).isSome&&(x.pl&&(Ja es key).isSome)) with
   | true=>some ⟨(h.m.put q none).put id (some (.map kd (YA es key x))),h.nx⟩
   | false=>none
  | _=>none
 | _,_=>none
theorem GS.back {h:Hp} (hh:GS μ ro h w) {q id:Nat} {b l:HI} {k k':Ob} (hq:h.m.get q=some k) (hb:μ q=some b) (hl:μ id=some l) (he:l.1=b.1) (hs:w'.heap.size=w.heap.size)
  (hw:∀ j,j≠b.1→w'.heap[j]?=w.heap[j]?) (hk:Ul μ ro w' l k'):GS μ ro ⟨(h.m.put q none).put id (some k'),h.nx⟩ w':=by
 have hro:∀ j,ro j→w'.heap[j]?=w.heap[j]?:=fun j hj=>hw j (fun e=>hh.own q k b hq hb (e ▸ hj))
 have hin:∀ j o,((h.m.put q none).put id (some k')).get j=some o→(j=id∧o=k')∨(j≠id∧j≠q∧h.m.get j=some o):=fun j o hj=>by
  simp only [Tr.get_put] at hj
  by_cases e:j=id
  ·rw [if_pos e] at hj; simp only [sJ] at hj; exact .inl ⟨e,hj.symm⟩
  ·rw [if_neg e] at hj
   by_cases e2:j=q
   ·rw [if_pos e2] at hj; cases hj
   ·rw [if_neg e2] at hj; exact .inr ⟨e,e2,hj⟩
 refine ⟨fun j o hj=>?_,fun i j o o' c d hi hj h1 h2 h3=>?_,fun j o c hj hc=>?_,fun j c hc=>by rw [hs]; exact hh.lt j c hc,fun c hc=>by rw [hs]; exact hh.old c hc,hh.nx⟩
 ·rcases hin j o hj with ⟨rfl,rfl⟩ | ⟨e1,e2,hj⟩
  ·exact .inl ⟨l,hl,hk⟩
  ·exact (hh.obs j o hj).imp_left fun ⟨c,hc,hob⟩=>⟨c,hc,hob.mono (fun _ _ h=>h) (fun _ h=>h) hro (hw c.1 fun e=>e2 (hh.inj j q o k c b hj hq hc hb e))⟩
 ·rcases hin i o hi with ⟨a1,a2⟩ | ⟨e1,e2,hi2⟩ <;> rcases hin j o' hj with ⟨a3,a4⟩ | ⟨e3,e4,hj2⟩
  ·rw [a1,a3]
  ·rw [a1,hl] at h1; cases h1
   exact absurd (hh.inj j q o' k d b hj2 hq h2 hb (h3.symm.trans he)) e4
  ·rw [a3,hl] at h2; cases h2
   exact absurd (hh.inj i q o k c b hi2 hq h1 hb (h3.trans he)) e2
  ·exact hh.inj i j o o' c d hi2 hj2 h1 h2 h3
 ·rcases hin j o hj with ⟨rfl,rfl⟩ | ⟨e1,e2,hj⟩
  ·rw [hl] at hc; cases hc
   rw [he]; exact hh.own q k b hq hb
  ·exact hh.own j o c hj hc
theorem GlZ:∀ {ms:List MapEntry} {i j:Nat} {m m':MapEntry},(ms.map (·.born)).Nodup→ms[i]?=some m→ms[j]?=some m'→m.born=m'.born→i=j
 | [],i,j,m,m',_,h,_,_=>by simp at h
 | x::ms,0,0,m,m',_,_,_,_=>rfl
 | x::ms,0,j+1,m,m',hn,h,h',e=>by
  simp only [List.getElem?_cons_zero,sJ] at h
  simp only [List.getElem?_cons_succ] at h'
  simp only [List.map_cons,List.nodup_cons] at hn
  subst h
  exact absurd (List.mem_map.2 ⟨m',List.mem_of_getElem? h',e.symm⟩) hn.1
 | x::ms,i+1,0,m,m',hn,h,h',e=>by
  simp only [List.getElem?_cons_zero,sJ] at h'
  simp only [List.getElem?_cons_succ] at h
  simp only [List.map_cons,List.nodup_cons] at hn
  subst h'
  exact absurd (List.mem_map.2 ⟨m,List.mem_of_getElem? h,e⟩) hn.1
 | x::ms,i+1,j+1,m,m',hn,h,h',e=>by
  simp only [List.getElem?_cons_succ] at h h'
  simp only [List.map_cons,List.nodup_cons] at hn
  rw [GlZ hn.2 h h' e]
theorem Gmm {t:TypeId} {m s x:AV} {a b' xv:Value} {h h':Hp} (hs:Gbw m s x h=some h') (hm:GX μ ro w true m a) (hk:GX μ ro w true s b') (hx:GX μ ro w true x xv) (hh:GS μ ro h w):
  ∃ w',(Instr.entryStore t a b' xv).run P w=.ok () w'∧GS μ ro h' w'∧Fr μ ro w μ w':=by
 unfold Gbw at hs
 split at hs
 ·rename_i id q
  split at hs
  ·rename_i id' kd es key hq
   split at hs
   ·rename_i hc
    simp only [Bool.and_eq_true] at hc
    simp only [sJ] at hs
    subst hs
    obtain ⟨hid,hc1,hc2,hc3⟩:=hc
    have hid:=Nat.eq_of_beq_eq_true hid
    subst hid
    obtain ⟨b,hb⟩:=Option.isSome_iff_exists.1 hc1
    have hxv:GX μ ro w false x xv:=hx.pl hc2
    cases hm with
    | @mapr _ l0 hl0=>
    cases hk with
    | @stp _ c hcq=>
    obtain ⟨l,ms,cl,p,m0,h1,h2,h3,h4,h5,h6,h7,h8,h9,h10,h11⟩:=hh.obsM q _ c hq hcq
    rw [hl0] at h1; cases h1
    rw [hb] at h11; cases h11
    have hlt:=hh.lt q c hcq
    have hgo:(getObj l0.1).run P w=.ok (.map ms cl) w:=by rw [h2]; simp [getObj,Sem.run,h3]
    have hkn:(ms.toList.map (·.key)).Nodup:=(h4.map _).nodup_iff.1 (h5.nodup h8)
    obtain ⟨i,hi,hfi⟩:∃ i,ms[i]?=some m0∧ms.findIdx? (fun e=>(e.born:Int)==(c.2:Int))=some i:=by
     cases hf:ms.findIdx? (fun e=>(e.born:Int)==(c.2:Int)) with
     | none=>
      rw [Array.findIdx?_eq_none_iff] at hf
      have:=hf m0 (by simpa using h9)
      rw [h10] at this
      simp at this
     | some i=>
      rw [Array.findIdx?_eq_some_iff_getElem] at hf
      obtain ⟨hlti,hp,_⟩:=hf
      refine ⟨i,?_,rfl⟩
      have hbi:ms[i].born=m0.born:=by
       have:((ms[i].born:Nat):Int)=(c.2:Int):=by simpa using hp
       omega
      obtain ⟨j,hj,e⟩:=List.getElem_of_mem h9
      have hij:i=j:=by
       exact GlZ h7 (by rw [Array.getElem?_toList]; exact Array.getElem?_eq_getElem hlti) (by rw [List.getElem?_eq_getElem hj,e]) hbi
      subst hij
      rw [Array.getElem?_eq_getElem hlti]
      simpa using e
    have hmod:(ms.modify i fun e=>{ e with val:=xv }).toList=ms.toList.map (gUp m0.key xv):=by
     rw [Array.toList_modify,← GmB (x:=xv) hkn (by rw [Array.getElem?_toList]; exact hi) rfl]
     apply List.ext_getElem?
     intro r
     rw [List.getElem?_modify,List.getElem?_modify]
     by_cases e:i=r
     ·subst e
      rw [Array.getElem?_toList,hi]
      simp
     ·simp [e]
    obtain ⟨k1,k2⟩:=Gm2 hb hxv h5 h8 (by intro e; rw [e] at hc3; cases hc3)
    obtain ⟨ms',hms'⟩:∃ ms',(ms.modify i fun e=>{ e with val:=xv })=ms':=⟨_,rfl⟩
    rw [hms'] at hmod
    have hw1:∀ j,j≠c.1→(w.heap.setIfInBounds l0.1 (.map ms' cl))[j]?=w.heap[j]?:=fun j hj=>by rw [h2,Array.getElem?_setIfInBounds_ne (Ne.symm hj)]
    have hw2:(w.heap.setIfInBounds l0.1 (.map ms' cl))[l0.1]?=some (.map ms' cl):=by rw [h2,Array.getElem?_setIfInBounds_self_of_lt hlt]
    have hsz:(w.heap.setIfInBounds l0.1 (.map ms' cl)).size=w.heap.size:=by simp
    have hown:=hh.own q _ c hq hcq
    have hro:∀ j,ro j→(w.heap.setIfInBounds l0.1 (.map ms' cl))[j]?=w.heap[j]?:=fun j hj=>hw1 j (fun e=>hown (e ▸ hj))
    refine ⟨{ w with heap:=w.heap.setIfInBounds l0.1 (.map ms' cl) },?_,?_,Fr.write hcq rfl rfl rfl hsz hown hw1⟩
    ·have hset:(setObj l0.1 (.map ms' cl)).run P w=.ok () { w with heap:=w.heap.setIfInBounds l0.1 (.map ms' cl) }:=by
      have:w.heap[l0.1]?=some (.map ms cl):=by rw [h2]; exact h3
      simp [setObj,Sem.run,this]
     simp only [Instr.entryStore,Sem.run_bind,hgo,Result.andThen_ok,asInt,asIntOf,Sem.run_pure,hfi,hms',hset]
    ·refine hh.back hq hcq hl0 h2 hsz hw1 ⟨ms',cl,_,hw2,by rw [hmod]; exact h4.map _,k1.mono (fun _ _ h=>h) (fun _ h=>h) hro,fun e he=>?_,?_,by rw [k2]; exact h8⟩
     ·rw [hmod] at he
      obtain ⟨e',he',rfl⟩:=List.mem_map.1 he
      rw [Gkj]; exact h6 e' he'
     ·rw [hmod,List.map_map]
      have:((fun e:MapEntry=>e.born) ∘ gUp m0.key xv)=(fun e:MapEntry=>e.born):=funext fun e=>Gkj
      rw [this]; exact h7
   ·cases hs
  ·cases hs
 ·cases hs
end
noncomputable section
open Go.RowKit
variable {P:Program} {μ μ':Nat→Option HI} {ro ro':Nat→Prop} {w w':World}
inductive OR where
 | val (v:AV) (h:Hp)
 | skip (h:Hp)
 | call (f:FuncId) (args:List AV)
 | dfr (f:FuncId) (args:List AV)
 | pan (v:AV)
def Guz (μ:Nat→Option HI) (ro:Nat→Prop) (w:World) (f:FuncId) (args:List AV) (d:Deferred):Prop:=
 ∃ cap vs:Array Value,d=⟨.fn (.func f) cap,vs⟩∧GR μ ro w true args (vs++cap).toList
def HJ (P:Program) (μ:Nat→Option HI) (ro:Nat→Prop) (w:World) (n:Nat) (s:Sem Next):OR→Prop
 | .val v h'=>∃ v' w' μ',s.run P w=.ok (.value v') w'∧Vk n μ μ'∧GX μ' ro w' true v v'∧GS μ' ro h' w'∧Fr μ ro w μ' w'
 | .skip h'=>∃ w',s.run P w=.ok .skip w'∧GS μ ro h' w'∧Fr μ ro w μ w'
 | .call f args=>∃ vs:Array Value,s.run P w=.ok (.enter f vs) w∧GR μ ro w true args vs.toList
 | .dfr f args=>∃ d,s.run P w=.ok (.defer d) w∧Guz μ ro w f args d
 | .pan v=>∃ v',s.run P w=.halt (.panic v') w∧GX μ ro w true v v'
theorem HJ.of_good {s:Sem Value} {r:AV×Hp} {n:Nat} (h:KA P s μ ro w n r.1 r.2):HJ P μ ro w n (do pure (.value (← s))) (.val r.1 r.2):=by
 obtain ⟨v',w',μ',h1,h2⟩:=h
 exact ⟨v',w',μ',by simp [h1,Result.andThen],h2⟩
theorem HJ.of_pure {s:Sem Value} {v:AV} {h:Hp} (hs:∃ v',(∀ w,s.run P w=.ok v' w)∧GX μ ro w true v v') (hh:GS μ ro h w):HJ P μ ro w h.nx (do pure (.value (← s))) (.val v h):=by
 obtain ⟨v',h1,h2⟩:=hs
 exact ⟨v',w,μ,by simp [h1,Result.andThen],.refl _ _,h2,hh,Fr.refl _ _ _⟩
theorem HJ.of_here {s:Sem Value} {v:AV} {h:Hp} (hs:∃ v',s.run P w=.ok v' w∧GX μ ro w true v v') (hh:GS μ ro h w):HJ P μ ro w h.nx (do pure (.value (← s))) (.val v h):=by
 obtain ⟨v',h1,h2⟩:=hs
 exact ⟨v',w,μ,by simp [h1,Result.andThen],.refl _ _,h2,hh,Fr.refl _ _ _⟩
theorem Gj0.here {s:Sem Value} {v:AV} (h:Gj0 P s v) (μ:Nat→Option HI) (ro:Nat→Prop) (w:World):∃ v',(∀ w,s.run P w=.ok v' w)∧GX μ ro w true v v':=
 let ⟨v',h1,h2⟩:=h; ⟨v',h1,h2 _ _ _ _⟩
def Gw0 (x:AV):Option AV:=
 match x with
 | .ptr _ _ | .rop _ _ | .ifc _ _=>some x
 | .fn (.func _) _ _=>some x
 | _=>none
def GeY (P:Program) (f:FuncId):Bool:=
 match P.funcs[f]? with
 | some fn=>fn.body.isSome&&!(fn.name == "runtime.NumGoroutine")
 | none=>false
theorem Gkd {f:FuncId} (h:GeY P f=true) (args:Array Value) (w:World):(callFunc f args).run P w=.ok (.enter f args) w:=by
 unfold GeY at h
 split at h
 ·rename_i fn hf
  simp only [Bool.and_eq_true,Bool.not_eq_true'] at h
  obtain ⟨c,hc⟩:=Option.isSome_iff_exists.1 h.1
  have h2:(fn.name == "runtime.NumGoroutine")=false:=h.2
  simp only [callFunc,Sem.run_bind,run_program,Result.andThen_ok,hf,h2,hc,Option.isNone_some,Bool.false_eq_true,if_false,Sem.run_pure]
 ·cases h
def Gww (P:Program) (f:AV) (args:List AV):Option OR:=
 match f with
 | .fn (.func g) first cap=>match GeY P g with | true=>some (.call g (first++args++cap)) | false=>none
 | _=>none
def aExt (P:Program) (f:AV) (args:List AV) (h:Hp):Option (AV×Hp):=
 match f with
 | .fn (.func g) [] []=>match Gpc P g with | true=>Gr0 args h | false=>(match Guv P g,Gpy args with | true,some v=>some (v,h) | _,_=>none)
 | _=>none
def Gqz (P:Program) (hn:Ht) (b:Builtin) (ts:Array TypeId) (args:List AV) (h:Hp):W OR:=
 match b,args with
 | .append,[s,x]=>(Go0 P hn ts s x h).bind fun r=>W.pure (.val r.1 r.2)
 | .copy,[s,x]=>(Gu8 P hn ts s x h).bind fun r=>W.pure (.val r.1 r.2)
 | .len,[.mapr id]=>(W.of (match ts[0]? with | some t=>GgQ P t (.mapr id) h | none=>none)).bind fun v=>W.pure (.val v h)
 | .len,[.nilm]=>(W.of (match ts[0]? with | some t=>GgQ P t .nilm h | none=>none)).bind fun v=>W.pure (.val v h)
 | .len,[x]=>(W.of (GvW P ts x)).bind fun v=>W.pure (.val v h)
 | .cap,[x]=>(W.of (Gv4 P ts x)).bind fun v=>W.pure (.val v h)
 | .min,[x,y]=>(Gw2 hn x y).bind fun v=>W.pure (.val v h)
 | .max,[x,y]=>(GwD hn x y).bind fun v=>W.pure (.val v h)
 | .min,[x,y,z]=>(GuL hn x y z).bind fun v=>W.pure (.val v h)
 | .max,[x,y,z]=>(GuH hn x y z).bind fun v=>W.pure (.val v h)
 | .clear,[s]=>(GsB P hn ts s h).bind fun r=>W.pure (.val r.1 r.2)
 | .panic,[.ifc t v]=>W.pure (.pan (.ifc t v))
 | .delete,[m,k]=>(W.of (match ts[0]? with | some t=>Gmv P t m k h | none=>none)).bind fun h'=>W.pure (.val (.tup []) h')
 | _,_=>W.fail
def Gmy (P:Program) (x:AV) (ast:TypeId) (ok:Bool):Option AV:=
 match P.underlying ast with
 | some (.interface _)=>none
 | some _=>
  match x with
  | .ifc t v=>
   match decide (t=ast),ok with
   | true,true=>some (.tup [v,.bool true])
   | true,false=>some v
   | false,true=>(match P.info? ast with | some i=>(match i.zero with | some z=>some (.tup [cst z,.bool false]) | none=>none) | none=>none)
   | false,false=>none
  | .nili=>
   match ok,P.info? ast with
   | true,some i=>(match i.zero with | some z=>some (.tup [cst z,.bool false]) | none=>none)
   | _,_=>none
  | _=>none
 | none=>none
theorem Gqr {x v:AV} {a:Value} {xt ast:TypeId} {ok:Bool} (h:Gmy P x ast ok=some v) (hx:GX μ ro w true x a):
  ∃ v',(∀ w,(Instr.typeAssert a xt ast ok).run P w=.ok v' w)∧GX μ ro w true v v':=by
 unfold Gmy at h
 split at h
 ·cases h
 ·rename_i d hne hu
  split at h
  ·rename_i t v0
   cases hx with
   | ifc hv=>
    rename_i x0
    split at h
    ·rename_i he
     simp only [sJ] at h
     subst h
     have he':=of_decide_eq_true he
     refine ⟨.tuple #[x0,.bool true],fun w=>?_,(GR.cons hv (GR.cons .bool GR.nil)).tup⟩
     simp only [Instr.typeAssert,Sem.run_bind,Gx hu,Result.andThen_ok]
     cases d <;> first | (simp [he'] ; done) | exact absurd rfl (hne _)
    ·rename_i he
     simp only [sJ] at h
     subst h
     have he':=of_decide_eq_true he
     refine ⟨x0,fun w=>?_,hv⟩
     simp only [Instr.typeAssert,Sem.run_bind,Gx hu,Result.andThen_ok]
     cases d <;> first | (simp [he'] ; done) | exact absurd rfl (hne _)
    ·rename_i he
     have he':=of_decide_eq_false he
     split at h
     ·rename_i i hi
      split at h
      ·rename_i z hz
       simp only [sJ] at h
       subst h
       refine ⟨.tuple #[z,.bool false],fun w=>?_,(GR.cons (Qi z) (GR.cons .bool GR.nil)).tup⟩
       simp only [Instr.typeAssert,Sem.run_bind,Gx hu,Result.andThen_ok]
       cases d <;> first | (simp [he',Yz hi hz,Result.andThen] ; done) | exact absurd rfl (hne _)
      ·cases h
     ·cases h
    ·cases h
  ·cases hx
   split at h
   ·rename_i i hi
    split at h
    ·rename_i z hz
     simp only [sJ] at h
     subst h
     refine ⟨.tuple #[z,.bool false],fun w=>?_,(GR.cons (Qi z) (GR.cons .bool GR.nil)).tup⟩
     simp only [Instr.typeAssert,Sem.run_bind,Gx hu,Result.andThen_ok]
     cases d <;> first | (simp [Yz hi hz,Result.andThen] ; done) | exact absurd rfl (hne _)
    ·cases h
   ·cases h
  ·cases h
 ·cases h
def Gvg (P:Program) (hn:Ht) (ρ:Operand→AV) (o:Oper) (h:Hp):W OR:=
 match o.op with
 | .move x | .assign x=>W.pure (.val (ρ x) h)
 | .pick c a b=>(Gsl hn (ρ c) (ρ a) (ρ b)).bind fun v=>W.pure (.val v h)
 | .alloc e=>(W.of (Go1 P e h)).bind fun r=>W.pure (.val r.1 r.2)
 | .box e x=>(W.of (Gvd e (ρ x) h)).bind fun r=>W.pure (.val r.1 r.2)
 | .build t ps=>(W.of (GpW P t (ps.toList.map fun p=>(p.1,ρ p.2)))).bind fun v=>W.pure (.val v h)
 | .buildSlice t n ps=>(W.of (Gbf P t n (ps.toList.map fun p=>(p.1,ρ p.2)) h)).bind fun r=>W.pure (.val r.1 r.2)
 | .load t a=>(Gs4 P hn t (ρ a) h).bind fun v=>W.pure (.val v h)
 | .store t a x=>(Gr8 P hn t (ρ a) (ρ x) h).bind fun h'=>W.pure (.skip h')
 | .nilCheck x=>(W.of (Gw0 (ρ x))).bind fun v=>W.pure (.val v h)
 | .binOp op t x y _=>(GwX P hn op t (ρ x) (ρ y)).bind fun v=>W.pure (.val v h)
 | .unOp op _ x=>(aUn hn op (ρ x)).bind fun v=>W.pure (.val v h)
 | .convert s d x=>(GuK P hn s d (ρ x) h).bind fun r=>W.pure (.val r.1 r.2)
 | .makeInterface t x=>(W.of (Gpd P t (ρ x))).bind fun v=>W.pure (.val v h)
 | .makeFunc f a c=>W.pure (.val (.fn f (a.toList.map ρ) (c.toList.map ρ)) h)
 | .makeSlice t l c=>(GiV P hn t (ρ l) (ρ c) h).bind fun r=>W.pure (.val r.1 r.2)
 | .slice t x lo hi none=>(Gsr P hn t (ρ x) (lo.map ρ) (hi.map ρ) h).bind fun v=>W.pure (.val v h)
 | .fieldAddr s x f=>(W.of (GaM P s (ρ x) f)).bind fun v=>W.pure (.val v h)
 | .field t x f=>(W.of (GpB P t (ρ x) f)).bind fun v=>W.pure (.val v h)
 | .indexAddr t x i=>(GiE P hn t (ρ x) (ρ i)).bind fun v=>W.pure (.val v h)
 | .index t x i=>(GsS P hn t (ρ x) (ρ i)).bind fun v=>W.pure (.val v h)
 | .makeMap t r=>(W.of (Gkl P t (r.map ρ) h)).bind fun r=>W.pure (.val r.1 r.2)
 | .lookup t x i ok=>(GoZ P hn t (ρ x) (ρ i) ok h).bind fun v=>W.pure (.val v h)
 | .mapUpdate t m k x=>(W.of (GgR P t (ρ m) (ρ k) (ρ x) h)).bind fun h'=>W.pure (.skip h')
 | .insert t m k x=>(W.of (GgR P t (ρ m) (ρ k) (ρ x) h)).bind fun h'=>W.pure (.skip h')
 | .mapEntry t m k=>(W.of (GgP P t (ρ m) (ρ k) h)).bind fun r=>W.pure (.val r.1 r.2)
 | .entryStore _ m k x=>(W.of (Gbw (ρ m) (ρ k) (ρ x) h)).bind fun h'=>W.pure (.skip h')
 | .range t x=>(W.of (GpQ P t (ρ x) h)).bind fun r=>W.pure (.val r.1 r.2)
 | .next i s=>(Gut hn s (ρ i) h).bind fun r=>W.pure (.val r.1 r.2)
 | .entry i=>(GrF hn (ρ i) h).bind fun v=>W.pure (.val v h)
 | .typeAssert x _ t ok=>(W.of (Gmy P (ρ x) t ok)).bind fun v=>W.pure (.val v h)
 | .extract t i=>(W.of (Gjp (ρ t) i)).bind fun v=>W.pure (.val v h)
 | .panic x=>match ρ x with | .ifc t v=>W.pure (.pan (.ifc t v)) | _=>W.fail
 | .call c=>
  match c.callee with
  | .value f=>match aExt P (ρ f) (c.args.toList.map ρ) h with | some r=>W.pure (.val r.1 r.2) | none=>W.of (Gww P (ρ f) (c.args.toList.map ρ))
  | .builtin b=>Gqz P hn b c.argTypes (c.args.toList.map ρ) h
  | .invoke _ _=>W.fail
 | .defer c=>
  match c.callee with
  | .value f=>match ρ f with | .fn (.func g) first cap=>(match GeY P g with | true=>W.pure (.dfr g (first++c.args.toList.map ρ++cap)) | false=>W.fail) | _=>W.fail
  | _=>W.fail
 | _=>W.fail
variable {ρ:Operand→AV} {ρ':Operand→Value}
theorem GuU {α β:Type} (f:α→β) (a:Array α):(a.toList.map f).toArray=a.map f:=by
 apply Array.ext'
 rw [Array.toList_map]
theorem GjG (hρ:∀ x,GX μ ro w true (ρ x) (ρ' x)):∀ l:List Operand,GR μ ro w true (l.map ρ) (l.map ρ')
 | []=>GR.nil
 | x::l=>GR.cons (hρ x) (GjG hρ l)
theorem GqO (hρ:∀ x,GX μ ro w true (ρ x) (ρ' x)) (ps:Array (Nat×Operand)):
  (ps.toList.map fun p=>(p.1,ρ' p.2)).length=(ps.toList.map fun p=>(p.1,ρ p.2)).length∧
  ∀ i (h:i<(ps.toList.map fun p=>(p.1,ρ p.2)).length) (h':i<(ps.toList.map fun p=>(p.1,ρ' p.2)).length),
   ((ps.toList.map fun p=>(p.1,ρ' p.2))[i]).1=((ps.toList.map fun p=>(p.1,ρ p.2))[i]).1∧GX μ ro w true ((ps.toList.map fun p=>(p.1,ρ p.2))[i]).2 ((ps.toList.map fun p=>(p.1,ρ' p.2))[i]).2:=
 ⟨by simp,fun i h h'=>by simp only [List.getElem_map,true_and]; exact hρ _⟩
theorem Gvr {hn:Ht} {o:Oper} {h:Hp} (hρ:∀ x,GX μ ro w true (ρ x) (ρ' x)) (hh:GS μ ro h w):
  (Gvg P hn ρ o h).sat fun r=>HJ P μ ro w h.nx (execOp ρ' o) r:=by
 have here:∀ {v:AV} {v':Value} {s:Sem Next},s.run P w=.ok (.value v') w→GX μ ro w true v v'→HJ P μ ro w h.nx s (.val v h):=fun h1 h2=>⟨_,w,μ,h1,.refl _ _,h2,hh,Fr.refl _ _ _⟩
 unfold Gvg execOp
 cases o.op <;> simp only
 case move x=>exact W.sat_pure (here rfl (hρ x))
 case assign x=>exact W.sat_pure (here rfl (hρ x))
 case pick c a b=>
  refine W.sat_bind (Gsn (P:=P) (hρ c) (hρ a) (hρ b)) fun v hv=>W.sat_pure ?_
  obtain ⟨v',h1,h2⟩:=hv
  refine here (v':=v') ?_ h2
  have:=h1 w
  simp only [Sem.run_bind,Sem.run_pure] at this ⊢
  cases hb:(asBool (ρ' c)).run P w with
  | ok x w1=>rw [hb] at this; simp only [Result.andThen_ok,Result.ok.injEq] at this ⊢; exact ⟨by rw [this.1],this.2⟩
  | halt x w1=>rw [hb] at this; simp at this
 case alloc e=>exact W.sat_bind (W.sat_of (Q:=fun r=>Go1 P e h=some r) fun v hv=>hv) fun r hr=>W.sat_pure (HJ.of_good (Gqm hr hh))
 case box e x=>exact W.sat_bind (W.sat_of (Q:=fun r=>Gvd e (ρ x) h=some r) fun v hv=>hv) fun r hr=>W.sat_pure (HJ.of_good (Gom hr (hρ x) hh))
 case build t ps=>
  refine W.sat_bind (W.sat_of (Q:=fun r=>GpW P t _=some r) fun v hv=>hv) fun v hv=>W.sat_pure (HJ.of_pure ?_ hh)
  obtain ⟨e1,e2⟩:=GqO hρ ps
  have:=Gsy hv e1 e2
  rwa [GuU] at this
 case buildSlice t n ps=>
  refine W.sat_bind (W.sat_of (Q:=fun r=>Gbf P t n _ h=some r) fun v hv=>hv) fun v hv=>W.sat_pure (HJ.of_good ?_)
  obtain ⟨e1,e2⟩:=GqO hρ ps
  have:=GkH hv e1 e2 hh
  rwa [GuU] at this
 case load t a=>exact W.sat_bind (GoA (hρ a) hh) fun v hv=>W.sat_pure (HJ.of_here hv hh)
 case store t a x=>
  refine W.sat_bind (Grv (hρ a) (hρ x) hh) fun h' ⟨w',h1,h2,h3⟩=>W.sat_pure ⟨w',?_,h2,h3⟩
  simp [h1,Result.andThen]
 case nilCheck x=>
  refine W.sat_bind (W.sat_of (Q:=fun r=>Gw0 (ρ x)=some r) fun v hv=>hv) fun v hv=>W.sat_pure ?_
  have hx:=hρ x
  unfold Gw0 at hv
  split at hv
  ·simp only [sJ] at hv; subst hv
   rename_i heq
   rw [heq] at hx ⊢
   refine here (v':=ρ' x) ?_ hx
   cases hr:ρ' x <;> rw [hr] at hx <;> cases hx
   rfl
  ·simp only [sJ] at hv; subst hv
   rename_i heq
   rw [heq] at hx ⊢
   refine here (v':=ρ' x) ?_ hx
   cases hr:ρ' x <;> rw [hr] at hx <;> cases hx
   rfl
  ·simp only [sJ] at hv; subst hv
   rename_i heq
   rw [heq] at hx ⊢
   refine here (v':=ρ' x) ?_ hx
   cases hr:ρ' x <;> rw [hr] at hx <;> cases hx
   rfl
  ·simp only [sJ] at hv; subst hv
   rename_i heq
   rw [heq] at hx ⊢
   refine here (v':=ρ' x) ?_ hx
   cases hr:ρ' x <;> rw [hr] at hx <;> cases hx
   rfl
  ·cases hv
 case binOp op t x y u=>
  exact W.sat_bind (Gvk (P:=P) (p:=x) (q:=y) (hρ x) (hρ y)) fun v hv=>W.sat_pure (HJ.of_pure (hv.here _ _ _) hh)
 case unOp op t x=>exact W.sat_bind (GvE (P:=P) (hρ x)) fun v hv=>W.sat_pure (HJ.of_pure (hv.here _ _ _) hh)
 case convert s d x=>exact W.sat_bind (Gt4 (hρ x) hh) fun r hr=>W.sat_pure (HJ.of_good hr)
 case makeInterface t x=>
  exact W.sat_bind (W.sat_of (Q:=fun r=>Gpd P t (ρ x)=some r) fun v hv=>hv) fun v hv=>W.sat_pure (HJ.of_pure (Gr3 hv (hρ x)) hh)
 case makeFunc f a c=>
  refine W.sat_pure (here rfl ?_)
  have h1:=GjG hρ a.toList
  have h2:=GjG hρ c.toList
  refine .fn (by simp) (fun i hi=>?_) (by simp) (fun i hi=>?_)
  ·have:=h1.2 i hi
   rwa [show (List.map ρ' a.toList).getD i undef=(a.map ρ').getD i undef by rw [← G0 (a.map ρ')]; simp] at this
  ·have:=h2.2 i hi
   rwa [show (List.map ρ' c.toList).getD i undef=(c.map ρ').getD i undef by rw [← G0 (c.map ρ')]; simp] at this
 case makeSlice t l c=>exact W.sat_bind (GnM (hρ l) (hρ c) hh) fun r hr=>W.sat_pure (HJ.of_good hr)
 case slice t x lo hi mx=>
  cases mx with
  | some m=>exact W.sat_fail
  | none=>
   simp only [Option.map_none]
   refine W.sat_bind (Gru (lo':=lo.map ρ') (hi':=hi.map ρ') hh (hρ x) (fun v hv=>?_) (fun e=>by simpa using e) (fun v hv=>?_) (fun e=>by simpa using e)) fun v hv=>W.sat_pure (HJ.of_pure hv hh)
   ·cases lo with
    | none=>cases hv
    | some y=>simp only [Option.map_some,sJ] at hv; subst hv; exact ⟨_,rfl,hρ y⟩
   ·cases hi with
    | none=>cases hv
    | some y=>simp only [Option.map_some,sJ] at hv; subst hv; exact ⟨_,rfl,hρ y⟩
 case fieldAddr s x f=>exact W.sat_bind (W.sat_of (Q:=fun r=>GaM P s (ρ x) f=some r) fun v hv=>hv) fun v hv=>W.sat_pure (HJ.of_pure (Gfw hv (hρ x)) hh)
 case field t x f=>exact W.sat_bind (W.sat_of (Q:=fun r=>GpB P t (ρ x) f=some r) fun v hv=>hv) fun v hv=>W.sat_pure (HJ.of_pure (Grw hv (hρ x)) hh)
 case indexAddr t x i=>exact W.sat_bind (GmW (hρ x) (hρ i)) fun v hv=>W.sat_pure (HJ.of_pure hv hh)
 case index t x i=>exact W.sat_bind (Gry (hρ x) (hρ i)) fun v hv=>W.sat_pure (HJ.of_pure hv hh)
 case makeMap t r=>exact W.sat_bind (W.sat_of (Q:=fun q=>Gkl P t (r.map ρ) h=some q) fun v hv=>hv) fun q hq=>W.sat_pure (HJ.of_good (GnX hq (fun e=>by simpa using e) hh))
 case lookup t x i ok=>exact W.sat_bind (GqN (hρ x) (hρ i) hh) fun v hv=>W.sat_pure (HJ.of_here hv hh)
 case mapUpdate t m k x=>
  refine W.sat_bind (W.sat_of (Q:=fun q=>GgR P t (ρ m) (ρ k) (ρ x) h=some q) fun v hv=>hv) fun h' hq=>W.sat_pure ?_
  obtain ⟨w',h1,h2,h3⟩:=GlP hq (hρ m) (hρ k) (hρ x) hh
  exact ⟨w',by simp [h1,Result.andThen],h2,h3⟩
 case insert t m k x=>
  refine W.sat_bind (W.sat_of (Q:=fun q=>GgR P t (ρ m) (ρ k) (ρ x) h=some q) fun v hv=>hv) fun h' hq=>W.sat_pure ?_
  obtain ⟨w',h1,h2,h3⟩:=GlP hq (hρ m) (hρ k) (hρ x) hh
  exact ⟨w',by simp [h1,Result.andThen],h2,h3⟩
 case mapEntry t m k=>exact W.sat_bind (W.sat_of (Q:=fun q=>GgP P t (ρ m) (ρ k) h=some q) fun v hv=>hv) fun q hq=>W.sat_pure (HJ.of_good (Gnz hq (hρ m) (hρ k) hh))
 case entryStore t m k x=>
  refine W.sat_bind (W.sat_of (Q:=fun q=>Gbw (ρ m) (ρ k) (ρ x) h=some q) fun v hv=>hv) fun h' hq=>W.sat_pure ?_
  obtain ⟨w',h1,h2,h3⟩:=Gmm (P:=P) (t:=t) hq (hρ m) (hρ k) (hρ x) hh
  exact ⟨w',by simp [h1,Result.andThen],h2,h3⟩
 case range t x=>exact W.sat_bind (W.sat_of (Q:=fun r=>GpQ P t (ρ x) h=some r) fun v hv=>hv) fun r hr=>W.sat_pure (HJ.of_good (Gqs hr (hρ x) hh))
 case entry i=>exact W.sat_bind (Gsx (hρ i) hh) fun v hv=>W.sat_pure (HJ.of_here hv hh)
 case next i s=>exact W.sat_bind (Gum (hρ i) hh) fun r hr=>W.sat_pure (HJ.of_good hr)
 case typeAssert x xt t ok=>exact W.sat_bind (W.sat_of (Q:=fun r=>Gmy P (ρ x) t ok=some r) fun v hv=>hv) fun v hv=>W.sat_pure (HJ.of_pure (Gqr hv (hρ x)) hh)
 case extract t i=>exact W.sat_bind (W.sat_of (Q:=fun r=>Gjp (ρ t) i=some r) fun v hv=>hv) fun v hv=>W.sat_pure (HJ.of_pure (GpK hv (hρ t)) hh)
 case panic x=>
  have hx:=hρ x
  split
  ·rename_i t v heq
   rw [heq] at hx
   refine W.sat_pure ?_
   cases hr:ρ' x <;> rw [hr] at hx <;> cases hx
   rename_i y hy
   exact ⟨_,by simp [Instr.panic,Result.andThen],.ifc hy⟩
  ·exact W.sat_fail
 case call c=>
  have hargs:=GjG hρ c.args.toList
  split
  ·rename_i f hc
   have hf:=hρ f
   split
   ·rename_i r hr
    refine W.sat_pure ?_
    unfold aExt at hr
    split at hr
    ·rename_i g heq
     split at hr
     ·rename_i hcl
      rw [heq] at hf
      cases hfv:ρ' f <;> rw [hfv] at hf <;> cases hf
      rename_i as cs hn hq hm hs
      have ha:as=#[]:=Array.eq_empty_of_size_eq_zero (by simpa using hn)
      have hc':cs=#[]:=Array.eq_empty_of_size_eq_zero (by simpa using hm)
      subst ha; subst hc'
      have hvs:GR μ ro w true (c.args.toList.map ρ) (c.args.map ρ').toList:=by simpa using hargs
      obtain ⟨v',w',μ',q1,q2⟩:=Gsf (P:=P) hr hvs hh
      refine ⟨v',w',μ',?_,q2⟩
      have hrun:=Gq3 hcl (c.args.map ρ') w
      rw [q1] at hrun
      simp only [resolve,hc,hfv,Deferred.ofValue,invoke,Sem.run_bind,Sem.run_pure,Result.andThen_ok,Array.empty_append,Array.append_empty]
      exact hrun
     ·split at hr
      ·rename_i hcl hix
       simp only [sJ] at hr
       subst hr
       rw [heq] at hf
       cases hfv:ρ' f <;> rw [hfv] at hf <;> cases hf
       rename_i as cs hn hq hm hs
       have ha:as=#[]:=Array.eq_empty_of_size_eq_zero (by simpa using hn)
       have hc':cs=#[]:=Array.eq_empty_of_size_eq_zero (by simpa using hm)
       subst ha; subst hc'
       have hvs:GR μ ro w true (c.args.toList.map ρ) (c.args.map ρ').toList:=by simpa using hargs
       obtain ⟨v',q1,q2⟩:=GqE (P:=P) hix hvs
       refine ⟨v',w,μ,?_,.refl _ _,q2,hh,Fr.refl _ _ _⟩
       have hrun:=GtU hcl (c.args.map ρ') w
       rw [q1] at hrun
       simp only [resolve,hc,hfv,Deferred.ofValue,invoke,Sem.run_bind,Sem.run_pure,Result.andThen_ok,Array.empty_append,Array.append_empty]
       exact hrun
      ·cases hr
    ·cases hr
   refine W.sat_of fun r hr=>?_
   unfold Gww at hr
   split at hr
   ·rename_i g first cap heq
    split at hr
    ·rename_i hcall
     simp only [sJ] at hr
     subst hr
     rw [heq] at hf
     cases hfv:ρ' f <;> rw [hfv] at hf <;> cases hf
     rename_i as cs hn hr hm hs
     refine ⟨as++c.args.map ρ'++cs,?_,?_⟩
     ·simp [resolve,hc,hfv,Deferred.ofValue,invoke,Result.andThen,Gkd hcall]
     ·have r1:GR μ ro w true first as.toList:=⟨by simpa using hn,fun i hi=>by rw [G0 as]; exact hr i hi⟩
      have r2:GR μ ro w true cap cs.toList:=⟨by simpa using hm,fun i hi=>by rw [G0 cs]; exact hs i hi⟩
      have:=(r1.app hargs).app r2
      simpa using this
    ·cases hr
   ·cases hr
  ·rename_i b hc
   have hrun:∀ {s:Sem Next},builtin b c.argTypes o.type (c.args.map fun | .const _=>true | _=>false) (c.args.map ρ')=s→
     (do let d ← resolve ρ' c o.type; invoke d.target d.args:Sem Next).run P w=s.run P w:=fun hs=>by
    simp only [resolve,hc,Sem.run_bind,Sem.run_pure,Result.andThen_ok,invoke]
    rw [← hs]
    congr 1
   have conv:∀ {r:OR} {s:Sem Next},(do let d ← resolve ρ' c o.type; invoke d.target d.args:Sem Next).run P w=s.run P w→HJ P μ ro w h.nx s r→HJ P μ ro w h.nx (do let d ← resolve ρ' c o.type; invoke d.target d.args) r:=fun {r s} e h=>by
    cases r <;> simp only [HJ] at h ⊢ <;> rw [e] <;> exact h
   have hsz:∀ l:List AV,c.args.toList.map ρ=l→(c.args.map ρ').toList.length=l.length:=fun l hl=>by rw [← hl]; simp
   generalize hl:c.args.toList.map ρ=l at hargs ⊢
   have hal:(c.args.map ρ')=(c.args.toList.map ρ').toArray:=(GuU _ _).symm
   rw [hal] at hrun
   generalize hxs:c.args.toList.map ρ'=xs at hargs hrun
   unfold Gqz
   split
   ·obtain ⟨x1,xs1,rfl,r1,hargs⟩:=hargs.head
    obtain ⟨x2,xs2,rfl,r2,hargs⟩:=hargs.head
    obtain rfl:xs2=[]:=List.length_eq_zero_iff.1 (by simpa using hargs.1)
    exact W.sat_bind (GqT (ty:=o.type) r1 r2 hh) fun r hr=>W.sat_pure (conv (hrun rfl) (HJ.of_good hr))
   ·obtain ⟨x1,xs1,rfl,r1,hargs⟩:=hargs.head
    obtain ⟨x2,xs2,rfl,r2,hargs⟩:=hargs.head
    obtain rfl:xs2=[]:=List.length_eq_zero_iff.1 (by simpa using hargs.1)
    exact W.sat_bind (GtF (ty:=o.type) r1 r2 hh) fun r hr=>W.sat_pure (conv (hrun rfl) (HJ.of_good hr))
   ·obtain ⟨x1,xs1,rfl,r1,hargs⟩:=hargs.head
    obtain rfl:xs1=[]:=List.length_eq_zero_iff.1 (by simpa using hargs.1)
    refine W.sat_bind (W.sat_of (Q:=fun v=>∃ t,c.argTypes[0]?=some t∧GgQ P t _ h=some v) fun v hv=>?_) fun v ⟨t,ht,hv⟩=>W.sat_pure (conv (hrun rfl) (HJ.of_here (GlC (ty:=o.type) ht hv r1 hh) hh))
    split at hv
    ·rename_i t ht; exact ⟨t,ht,hv⟩
    ·cases hv
   ·obtain ⟨x1,xs1,rfl,r1,hargs⟩:=hargs.head
    obtain rfl:xs1=[]:=List.length_eq_zero_iff.1 (by simpa using hargs.1)
    refine W.sat_bind (W.sat_of (Q:=fun v=>∃ t,c.argTypes[0]?=some t∧GgQ P t _ h=some v) fun v hv=>?_) fun v ⟨t,ht,hv⟩=>W.sat_pure (conv (hrun rfl) (HJ.of_here (GlC (ty:=o.type) ht hv r1 hh) hh))
    split at hv
    ·rename_i t ht; exact ⟨t,ht,hv⟩
    ·cases hv
   ·obtain ⟨x1,xs1,rfl,r1,hargs⟩:=hargs.head
    obtain rfl:xs1=[]:=List.length_eq_zero_iff.1 (by simpa using hargs.1)
    exact W.sat_bind (W.sat_of (Q:=fun r=>GvW P _ _=some r) fun v hv=>hv) fun v hv=>W.sat_pure (conv (hrun rfl) (HJ.of_pure (GuO hv r1) hh))
   ·obtain ⟨x1,xs1,rfl,r1,hargs⟩:=hargs.head
    obtain rfl:xs1=[]:=List.length_eq_zero_iff.1 (by simpa using hargs.1)
    exact W.sat_bind (W.sat_of (Q:=fun r=>Gv4 P _ _=some r) fun v hv=>hv) fun v hv=>W.sat_pure (conv (hrun rfl) (HJ.of_pure (Gvc hv r1) hh))
   ·obtain ⟨x1,xs1,rfl,r1,hargs⟩:=hargs.head
    obtain ⟨x2,xs2,rfl,r2,hargs⟩:=hargs.head
    obtain rfl:xs2=[]:=List.length_eq_zero_iff.1 (by simpa using hargs.1)
    exact W.sat_bind (GuW (P:=P) r1 r2) fun v hv=>W.sat_pure (conv (hrun rfl) (HJ.of_pure (hv.here _ _ _) hh))
   ·obtain ⟨x1,xs1,rfl,r1,hargs⟩:=hargs.head
    obtain ⟨x2,xs2,rfl,r2,hargs⟩:=hargs.head
    obtain rfl:xs2=[]:=List.length_eq_zero_iff.1 (by simpa using hargs.1)
    exact W.sat_bind (Guy (P:=P) r1 r2) fun v hv=>W.sat_pure (conv (hrun rfl) (HJ.of_pure (hv.here _ _ _) hh))
   ·obtain ⟨x1,xs1,rfl,r1,hargs⟩:=hargs.head
    obtain ⟨x2,xs2,rfl,r2,hargs⟩:=hargs.head
    obtain ⟨x3,xs3,rfl,r3,hargs⟩:=hargs.head
    obtain rfl:xs3=[]:=List.length_eq_zero_iff.1 (by simpa using hargs.1)
    exact W.sat_bind (Gt7 (P:=P) r1 r2 r3) fun v hv=>W.sat_pure (conv (hrun rfl) (HJ.of_pure (hv.here _ _ _) hh))
   ·obtain ⟨x1,xs1,rfl,r1,hargs⟩:=hargs.head
    obtain ⟨x2,xs2,rfl,r2,hargs⟩:=hargs.head
    obtain ⟨x3,xs3,rfl,r3,hargs⟩:=hargs.head
    obtain rfl:xs3=[]:=List.length_eq_zero_iff.1 (by simpa using hargs.1)
    exact W.sat_bind (GtX (P:=P) r1 r2 r3) fun v hv=>W.sat_pure (conv (hrun rfl) (HJ.of_pure (hv.here _ _ _) hh))
   ·obtain ⟨x1,xs1,rfl,r1,hargs⟩:=hargs.head
    obtain rfl:xs1=[]:=List.length_eq_zero_iff.1 (by simpa using hargs.1)
    exact W.sat_bind (Gsv (ty:=o.type) r1 hh) fun r hr=>W.sat_pure (conv (hrun rfl) (HJ.of_good hr))
   ·obtain ⟨x1,xs1,rfl,r1,hargs⟩:=hargs.head
    obtain rfl:xs1=[]:=List.length_eq_zero_iff.1 (by simpa using hargs.1)
    cases r1 with
    | ifc hv=>
     rename_i x0
     exact W.sat_pure (conv (hrun rfl) ⟨.iface _ x0,rfl,.ifc hv⟩)
   ·rename_i m0 k0
    obtain ⟨x1,xs1,rfl,r1,hargs⟩:=hargs.head
    obtain ⟨x2,xs2,rfl,r2,hargs⟩:=hargs.head
    obtain rfl:xs2=[]:=List.length_eq_zero_iff.1 (by simpa using hargs.1)
    refine W.sat_bind (W.sat_of (Q:=fun h'=>∃ t,c.argTypes[0]?=some t∧Gmv P t m0 k0 h=some h') fun v hv=>?_) fun h' ⟨t,ht,hv⟩=>W.sat_pure ?_
    ·split at hv
     ·rename_i t ht; exact ⟨t,ht,hv⟩
     ·cases hv
    ·obtain ⟨w',q1,q2,q3⟩:=GqF (ty:=o.type) ht hv r1 r2 hh
     exact conv (hrun rfl) (HJ.of_good (r:=(.tup [],h')) ⟨.tuple #[],w',μ,q1,.refl _ _,GR.nil.tup,q2,q3⟩)
   ·exact W.sat_fail
  ·exact W.sat_fail
 case defer c=>
  have hargs:=GjG hρ c.args.toList
  split
  ·rename_i f hc
   have hf:=hρ f
   split
   ·rename_i g first cap heq
    split
    ·rename_i hcall
     rw [heq] at hf
     cases hfv:ρ' f <;> rw [hfv] at hf <;> cases hf
     rename_i as cs hn hr hm hs
     refine W.sat_pure ⟨⟨.fn (.func g) cs,as++c.args.map ρ'⟩,?_,cs,as++c.args.map ρ',rfl,?_⟩
     ·simp [resolve,hc,hfv,Deferred.ofValue,Result.andThen]
     ·have r1:GR μ ro w true first as.toList:=⟨by simpa using hn,fun i hi=>by rw [G0 as]; exact hr i hi⟩
      have r2:GR μ ro w true cap cs.toList:=⟨by simpa using hm,fun i hi=>by rw [G0 cs]; exact hs i hi⟩
      have:=(r1.app hargs).app r2
      simpa using this
    ·exact W.sat_fail
   ·exact W.sat_fail
  ·exact W.sat_fail
 all_goals exact W.sat_fail
end
end Go.Proofs.YtnlaiahcemckkaaGreatDoor.Av
