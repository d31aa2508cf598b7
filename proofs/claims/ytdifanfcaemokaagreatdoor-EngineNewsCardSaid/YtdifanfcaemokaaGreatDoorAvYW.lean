import Derived.Test.YtdifanfcaemokaaGreatDoorAvV
import Derived.ChangeArms
import Derived.ChangeShapes
import Derived.DataReads
import Derived.ChangeSlices
import Derived.WalkKit
import Derived.ProofKit
import Derived.Deep.DeepHandedRow
import Derived.SizedLaws
open Prod (fst)
open Int (tdiv tmod)
set_option linter.unusedVariables false
set_option linter.unusedSimpArgs false
namespace Go.Proofs.YtdifanfcaemokaaGreatDoor.Av
noncomputable section
open Go.RowKit
variable {P:Program} {G:Nat→AV}
/-! ### loops as functions -/
def iter {σ ρ:Type} (step:σ→Option (σ⊕ρ)):Nat→σ→Option ρ
 | 0,_=>none
 | n+1,s=>match step s with | none=>none | some (.inl s')=>iter step n s' | some (.inr r)=>some r
theorem GmD {σ ρ:Type} {step:σ→Option (σ⊕ρ)}:∀ {n m:Nat} {s:σ} {r:ρ},n≤m→iter step n s=some r→iter step m s=some r
 | 0,_,_,_,_,h=>by cases h
 | n+1,0,_,_,hm,_=>by omega
 | n+1,m+1,s,r,hm,h=>by
  simp only [iter] at h ⊢
  cases hs:step s with
  | none=>rw [hs] at h; cases h
  | some x=>
   rw [hs] at h
   cases x with
   | inl s'=>exact GmD (by omega) h
   | inr r'=>exact h
def lp {σ ρ:Type} (step:σ→Option (σ⊕ρ)) (s:σ):Option ρ:=
 open Classical in if h:∃ n r,iter step n s=some r then some (Classical.choose (Classical.choose_spec h)) else none
theorem GuV {σ ρ:Type} {step:σ→Option (σ⊕ρ)} {s:σ} {r:ρ}:lp step s=some r↔∃ n,iter step n s=some r:=by
 unfold lp
 constructor
 ·intro h
  split at h
  ·rename_i hx
   simp only [sJ] at h
   exact ⟨_,h ▸ Classical.choose_spec (Classical.choose_spec hx)⟩
  ·cases h
 ·rintro ⟨n,h⟩
  have hx:∃ n r,iter step n s=some r:=⟨n,r,h⟩
  rw [dif_pos hx]
  have h2:=Classical.choose_spec (Classical.choose_spec hx)
  have h3:=GmD (Nat.le_max_left n (Classical.choose hx)) h
  have h4:=GmD (Nat.le_max_right n (Classical.choose hx)) h2
  rw [h3] at h4
  exact h4.symm
theorem Gqw {σ ρ:Type} (step:σ→Option (σ⊕ρ)) (s:σ):lp step s=match step s with | none=>none | some (.inl s')=>lp step s' | some (.inr r)=>some r:=by
 have key:∀ r,lp step s=some r↔(match step s with | none=>none | some (.inl s')=>lp step s' | some (.inr r)=>some r)=some r:=fun r=>by
  rw [GuV]
  cases hs:step s with
  | none=>
   simp only [reduceCtorEq,iff_false,not_exists]
   intro n
   cases n <;> simp [iter,hs]
  | some x=>
   cases x with
   | inl s'=>
    simp only
    rw [GuV]
    constructor
    ·rintro ⟨n,h⟩
     cases n with
     | zero=>cases h
     | succ n=>simp only [iter,hs] at h; exact ⟨n,h⟩
    ·rintro ⟨n,h⟩
     exact ⟨n+1,by simp only [iter,hs]; exact h⟩
   | inr r'=>
    simp only
    constructor
    ·rintro ⟨n,h⟩
     cases n with
     | zero=>cases h
     | succ n=>simp only [iter,hs] at h; exact h
    ·intro h
     exact ⟨1,by simp only [iter,hs]; exact h⟩
 cases hl:lp step s with
 | none=>
  cases hr:(match step s with | none=>none | some (.inl s')=>lp step s' | some (.inr r)=>some r) with
  | none=>rfl
  | some r=>rw [(key r).2 hr] at hl; cases hl
 | some r=>exact ((key r).1 hl).symm
theorem GoW {σ ρ:Type} {step:σ→Option (σ⊕ρ)} {s s':σ} (h:step s=some (.inl s')):lp step s=lp step s':=by rw [Gqw,h]
theorem Gbl {σ ρ:Type} {step:σ→Option (σ⊕ρ)} {s:σ} {r:ρ} (h:step s=some (.inr r)):lp step s=some r:=by rw [Gqw,h]
theorem GN.lp {σ ρ:Type} {m:Nat} {b:Code} {step:σ→Option (σ⊕ρ)} {H:σ→St} {X:ρ→Hm} {E:ρ→St} (hs:∀ s s',step s=some (.inl s')→GN P G m b (H s) .normal (H s'))
  (hx:∀ s r,step s=some (.inr r)→GN P G m b (H s) (X r) (E r)∧X r≠.normal) {s:σ} {r:ρ} (hlp:Go.Proofs.YtdifanfcaemokaaGreatDoor.Av.lp step s=some r):GN P G m (.loop b) (H s) (X r) (E r):=by
 obtain ⟨n,h⟩:=GuV.1 hlp
 clear hlp
 induction n generalizing s with
 | zero=>cases h
 | succ n ih=>
  simp only [iter] at h
  cases hst:step s with
  | none=>rw [hst] at h; cases h
  | some x=>
   rw [hst] at h
   cases x with
   | inl s'=>exact (hs s s' hst).loop (ih h)
   | inr r'=>
    simp only [sJ] at h
    subst h
    obtain ⟨h1,h2⟩:=hx s r' hst
    exact h1.loop_out h2
theorem gdS {α:Type} {p:Prop} [Decidable p] {a:Option α} {r:α} (h:(if p then a else none)=some r):p∧a=some r:=by
 split at h
 ·exact ⟨by assumption,h⟩
 ·cases h
theorem bnS {α β:Type} {o:Option α} {f:α→Option β} {r:β} (h:o.bind f=some r):∃ v,o=some v∧f v=some r:=Option.bind_eq_some_iff.1 h
/-! ### elements as cells -/
def fl {α:Type} (f:α→List AV) (l:List α):List AV:=l.flatMap f
theorem GrJ {α:Type} {f:α→List AV}:fl f []=[]:=rfl
theorem Gfn {α:Type} {f:α→List AV} {x:α} {l:List α}:fl f (x::l)=f x++fl f l:=rfl
theorem Gz2 {α:Type} {f:α→List AV} {l m:List α}:fl f (l++m)=fl f l++fl f m:=List.flatMap_append
theorem GyZ {α:Type} {f:α→List AV} {l:List α} {x:α} {c:List AV} (h:c=f x):fl f l++c=fl f (l++[x]):=by simp [fl,h]
theorem GZ {α:Type} {f:α→List AV} {z:Nat} (hz:∀ x,(f x).length=z):∀ l:List α,(fl f l).length=l.length*z
 | []=>by simp [GrJ]
 | x::l=>by rw [Gfn,List.length_append,GZ hz l,hz,List.length_cons,Nat.add_mul]; omega
theorem GrI {α:Type} {f:α→List AV} {z:Nat} (hz:∀ x,(f x).length=z):∀ (l:List α) (n:Nat),(fl f l).drop (n*z)=fl f (l.drop n)
 | l,0=>by simp
 | [],n+1=>by simp [GrJ]
 | x::l,n+1=>by
  rw [Gfn,List.drop_succ_cons,← GrI hz l n,show (n+1)*z=(f x).length+n*z by rw [hz,Nat.add_mul]; omega,List.drop_append]
  simp
theorem RS {α:Type} {f:α→List AV} {z:Nat} (hz:∀ x,(f x).length=z):∀ (l:List α) (n:Nat),(fl f l).take (n*z)=fl f (l.take n)
 | l,0=>by simp [GrJ]
 | [],n+1=>by simp [GrJ]
 | x::l,n+1=>by
  rw [Gfn,List.take_succ_cons,Gfn,← RS hz l n,show (n+1)*z=(f x).length+n*z by rw [hz,Nat.add_mul]; omega,List.take_append]
  simp [List.take_of_length_le (Nat.le_add_right _ _)]
theorem GL {α:Type} {f:α→List AV} {z:Nat} (hz:∀ x,(f x).length=z) {l:List α} {j:Nat} {x:α} (h:l[j]?=some x) {c:List AV} {a n:Nat} (ha:a+n≤z) (hc:sub (f x) a n=c):sub (fl f l) (j*z+a) n=c:=by
 have hj:=(List.getElem?_eq_some_iff.1 h).1
 have hx:=(List.getElem?_eq_some_iff.1 h).2
 subst hc
 unfold sub
 rw [← List.drop_drop,GrI hz,List.drop_eq_getElem_cons hj,hx,Gfn,List.drop_append,hz,List.take_append]
 have:n - ((f x).length - a)=0:=by rw [hz]; omega
 simp [this]
theorem GX {α:Type} {f:α→List AV} {z:Nat} (hz:∀ x,(f x).length=z) {l:List α} {j:Nat} {x:α} (h:l[j]?=some x) {c:List AV} (hc:f x=c):sub (fl f l) (j*z) z=c:=by
 have:=GL hz h (a:=0) (n:=z) (by omega) (c:=c) (by subst hc; simp [sub,List.take_of_length_le (Nat.le_of_eq (hz x))])
 simpa using this
theorem GrK {α:Type} {f:α→List AV} (hz:∀ x,(f x).length=1) {l:List α} {j:Nat} {x:α} (h:l[j]?=some x) {c:List AV} (hc:f x=c):sub (fl f l) j 1=c:=by
 have:=GX hz h hc
 simpa using this
theorem GD {α:Type} {f:α→List AV} {z:Nat} (hz:∀ x,(f x).length=z+1) {l:List α} {j:Nat} {x:α} (h:l[j]?=some x):fl f l≠[]:=by
 intro e
 have h1:=congrArg List.length e
 rw [GZ hz] at h1
 have:=(List.getElem?_eq_some_iff.1 h).1
 have h2:l.length*(z+1)=0:=h1
 rcases Nat.mul_eq_zero.1 h2 with h3 | h3 <;> omega
theorem GrM {α:Type} {l:List α} {j:Nat} {x:α} (h:l[j]?=some x):j<l.length:=(List.getElem?_eq_some_iff.1 h).1
theorem GvS:∀ (vs c:List AV) (off:Nat),off+vs.length≤c.length→Gkx c off vs=c.take off++vs++c.drop (off+vs.length)
 | [],c,off,_=>by simp [Gkx]
 | v::vs,c,off,h=>by
  simp only [List.length_cons] at h
  have hlt:off<c.length:=by omega
  rw [Gkx,GvS vs _ _ (by simp; omega)]
  have e1:(c.set off v).take (off+1)=c.take off++[v]:=by
   rw [List.take_add_one,List.take_set_of_le (Nat.le_refl _)]
   simp [hlt]
  have e2:(c.set off v).drop (off+1+vs.length)=c.drop (off+(v::vs).length):=by
   rw [List.drop_set_of_lt (by omega)]
   congr 1
   simp only [List.length_cons]; omega
  rw [e1,e2]
  simp
theorem Gz3 {α:Type} {f:α→List AV} {z:Nat} (hz:∀ x,(f x).length=z) {l:List α} {j:Nat} {x:α} (h:j<l.length) {c:List AV} (hc:c=f x):Gkx (fl f l) (j*z) c=fl f (l.set j x):=by
 subst hc
 have hm:(j+1)*z≤l.length*z:=Nat.mul_le_mul_right _ h
 rw [GvS _ _ _ (by rw [hz,GZ hz]; rw [Nat.add_mul] at hm; omega),RS hz,hz,show j*z+z=(j+1)*z by rw [Nat.add_mul]; omega,GrI hz,List.set_eq_take_append_cons_drop,if_pos h,Gz2,Gfn,List.append_assoc]
theorem GyY {α:Type} {f:α→List AV} (hz:∀ x,(f x).length=1) {l:List α} {j:Nat} {x:α} (h:j<l.length) {c:List AV} (hc:c=f x):Gkx (fl f l) j c=fl f (l.set j x):=by
 have:=Gz3 hz h hc
 simpa using this
theorem JO {l:List UInt8} {c:List AV} {x:UInt8} (h:c=[.int .u8 x.toNat]):JN l++c=JN (l++[x]):=by simp [JN,h]
theorem Hz {l:List UInt8}:(JN l).length=l.length:=by simp [JN]
theorem Gvx {α:Type} {f:α→List AV} (hf:∀ x,(f x).all AV.one=true):∀ l:List α,(fl f l).all AV.one=true
 | []=>rfl
 | x::l=>by rw [Gfn,List.all_append,hf,Gvx hf l]; rfl
theorem Goa {c:List AV} {n:Nat} (h:c.length=n):sub c 0 n=c:=by subst h; simp [sub]
end
noncomputable section
open Go.RowKit
abbrev bT (c:List AV) (e:TypeId):Hb:={ c:=c,e:=e,ext:=false,fz:=0,pl:=true }
abbrev bF (c:List AV) (e:TypeId):Hb:={ c:=c,e:=e,ext:=false,fz:=0,pl:=false }
abbrev bV (c:List AV) (e:TypeId):Hb:={ c:=c,e:=e,ext:=true,fz:=0,pl:=true,o:=true }
def GS (k:IntKind) (x:Int):Prop:=k.min≤x∧x≤k.max
instance (k:IntKind) (x:Int):Decidable (GS k x):=inferInstanceAs (Decidable (_∧_))
theorem RY {x:Int}:GS .i64 x ↔ -9223372036854775808≤x∧x≤9223372036854775807:=Iff.rfl
theorem Gx1 {x:Int}:GS .u8 x↔0≤x∧x≤255:=Iff.rfl
theorem Gy1 {x:Int}:GS .i32 x ↔ -2147483648≤x∧x≤2147483647:=Iff.rfl
theorem Gy {b:Bool} (h:b=false):(!b)=true:=by rw [h]; rfl
theorem Gx {b:Bool} (h:b=true):(!b)=false:=by rw [h]; rfl
theorem Gu {α:Type} [BEq α] [LawfulBEq α] {a b:α} (h:a=b):(a==b)=true:=beq_iff_eq.2 h
theorem Gz {α:Type} [BEq α] [LawfulBEq α] {a b:α} (h:¬ a=b):(a==b)=false:=by
 cases hh:a==b with
 | false=>rfl
 | true=>exact absurd (beq_iff_eq.1 hh) h
def GU (x:Int):List AV:=[.int .i64 x]
def Kn (x:Bool):List AV:=[.bool x]
def JB (x:List UInt8):List AV:=[.str x]
theorem Rt {α:Type} {f:α→List AV} (hz:∀ x,(f x).length=1) (l:List α):(fl f l).length=l.length:=by rw [GZ hz]; omega
theorem GoJ {α:Type} {f:α→List AV} (hz:∀ x,(f x).length=1) (l:List α) (n:Nat):(fl f l).take n=fl f (l.take n):=by have:=RS hz l n; rwa [Nat.mul_one] at this
theorem Ya {c d:List AV} {n m:Nat} (h:c=d) (k:n=m):AV.lst c n=AV.lst d m:=by rw [h,k]
theorem GxY {α:Type} {f:α→List AV} (hz:∀ x,(f x).length=1) {l:List α} {j:Nat} (h:j<l.length):j+1≤(fl f l).length:=by rw [Rt hz]; omega
theorem GqG {x:Int} (h:GS .u8 x):(AV.int .u8 x)=.int .u8 ((UInt8.ofNat x.toNat).toNat:Int):=by
 have h:=Gx1.1 h
 congr 1
 rw [UInt8.toNat_ofNat']
 omega
theorem HB {l:List UInt8} {j:Nat} {y:UInt8} (h:l[j]?=some y):(AV.int .u8 ((List.getD l j 0).toNat:Int))=.int .u8 (y.toNat:Int):=by
 rw [List.getD_eq_getElem?_getD,h]
 rfl
end
noncomputable section
def dec (s:List UInt8) (pos:Nat):Nat×Nat:=Utf8.decode ⟨s.toArray⟩ pos
end
noncomputable section
def cs:Nat→List CH→List CH
 | 0,l=>l
 | n+1,l=>.op none .c::cs n l
end
noncomputable section
end
noncomputable section
theorem Gb {p:Prop} (h:p):KX [p]:=h
end
noncomputable section
theorem k2 {p:Prop} {ps:List Prop} (h:p) (t:KX ps):KX (p::ps):=by
 cases ps with
 | nil=>exact h
 | cons q ps=>exact ⟨h,t⟩
theorem Hg:KX []:=trivial
theorem ix {α:Type} {i:Int} {l:List α} {x:α} (h:0≤i) (h2:l[i.toNat]?=some x):i=((i.toNat:Nat):Int)∧i.toNat<l.length:=⟨(Int.toNat_of_nonneg h).symm,GrM h2⟩
theorem ir {α:Type} {k:Nat} {l:List α} {x:α} (h2:l[k]?=some x):(k:Int)=((k:Nat):Int)∧k<l.length:=⟨rfl,GrM h2⟩
theorem H3 {l:List Int} {j:Nat} {x:Int} (h:l[j]?=some x):sub (fl GU l) j 1=[.int .i64 x]:=GrK (fun _=>rfl) h rfl
theorem Gu7 {l:List Bool} {j:Nat} {x:Bool} (h:l[j]?=some x):sub (fl Kn l) j 1=[.bool x]:=GrK (fun _=>rfl) h rfl
theorem Gtk {l:List (List UInt8)} {j:Nat} {x:List UInt8} (h:l[j]?=some x):sub (fl JB l) j 1=[.str x]:=GrK (fun _=>rfl) h rfl
theorem iy {i:Int} {n:Nat} (h:0≤i) (h2:i.toNat<n):i=((i.toNat:Nat):Int)∧i.toNat<n:=⟨(Int.toNat_of_nonneg h).symm,h2⟩
theorem Gr2 {l:List Bool} {j:Nat} {x:Bool} (h:l[j]?=some x):j+1≤List.length (fl Kn l):=GxY (fun _=>rfl) (GrM h)
theorem Gr3 (x:Bool) {l:List Bool} {j:Nat} {y:Bool} (h:l[j]?=some y):Gkx (fl Kn l) j [.bool x]=fl Kn (l.set j x):=GyY (fun _=>rfl) (GrM h) rfl
abbrev oc:CH:=.op none .c
abbrev oa:CH:=.op none .a
abbrev bt:CH:=.br true
abbrev bf:CH:=.br false
abbrev oF:CH:=.op (some false) .c
abbrev oG:CH:=.op (some false) .a
abbrev jI (x:Int):AV:=.int .i64 x
abbrev ow:CH:=.op none .w
abbrev tc:CH:=.op (some true) .c
abbrev ta:CH:=.op (some true) .a
abbrev tw:CH:=.op (some true) .w
abbrev vI (x:Int):CH:=.op none (.v [.int .i64 x])
end
noncomputable section
open Go.RowKit
variable {P:Program} {W:World} {H:Type} {enc:TypeId×Value→H} {sp:Nat→Bool} {held:Bool}
def KL (h:TypeId→List AV→Prop):List Field→List AV→Prop
 | [],c=>c=[]
 | f::fs,c=>∃ a b,c=a++b∧h f.type a∧KL h fs b
def Gy4 (P:Program):List Field→Nat→Nat→Bool
 | [],o,m=>Nat.beq o m
 | f::fs,o,m=>Nat.beq f.offset o&&Gy4 P fs (o+P.cellsOf f.type) m
def GmK (P:Program):Nat→TypeId→Bool
 | 0,_=>false
 | n+1,t=>
  match P.underlying t with
  | some .bool=>Nat.beq (P.cellsOf t) 1
  | some (.int _)=>Nat.beq (P.cellsOf t) 1
  | some .string=>Nat.beq (P.cellsOf t) 1
  | some (.slice e)=>Nat.beq (P.cellsOf t) 1&&GmK P n e
  | some (.struct fs)=>fs.toList.all (fun f=>GmK P n f.type)&&Gy4 P fs.toList 0 (P.cellsOf t)
  | _=>false
theorem Gnl {α:Type} {z:Nat}:∀ {es:List (List α)} {q r:Nat},(∀ x ∈ es,x.length=z)→r<z→es.flatten[q*z+r]?=(es[q]?).bind (·[r]?)
 | [],q,r,_,_=>by simp
 | x::es,0,r,h,hr=>by
  have hx:=h x (List.mem_cons_self ..)
  simp [List.getElem?_append_left (show r<x.length by omega)]
 | x::es,q+1,r,h,hr=>by
  have hx:=h x (List.mem_cons_self ..)
  rw [List.flatten_cons,List.getElem?_append_right (by rw [Nat.add_mul]; omega),show (q+1)*z+r - x.length=q*z+r by rw [hx,Nat.add_mul]; omega,
   Gnl (fun y hy=>h y (List.mem_cons_of_mem _ hy)) hr]
  simp
theorem Gnm {α:Type} {z:Nat}:∀ {es:List (List α)},(∀ x ∈ es,x.length=z)→es.flatten.length=es.length*z
 | [],_=>by simp
 | x::es,h=>by
  rw [List.flatten_cons,List.length_append,Gnm (fun y hy=>h y (List.mem_cons_of_mem _ hy)),h x (List.mem_cons_self ..),List.length_cons,Nat.add_mul]; omega
abbrev roW (W:World):Nat→Prop:=fun b=>b<W.heap.size
theorem Gy5 {α:Type} {n:Nat} {p:Nat→α→Prop} (h:∀ i,i<n→∃ x,p i x):∃ l:List α,l.length=n∧∀ i x,l[i]?=some x→p i x:=by
 induction n with
 | zero=>exact ⟨[],rfl,fun i x h=>by simp at h⟩
 | succ n ih=>
  obtain ⟨l,h1,h2⟩:=ih fun i hi=>h i (by omega)
  obtain ⟨x,hx⟩:=h n (by omega)
  refine ⟨l++[x],by simp [h1],fun i y hy=>?_⟩
  by_cases hi:i<l.length
  ·rw [List.getElem?_append_left hi] at hy; exact h2 i y hy
  ·rw [List.getElem?_append_right (by omega)] at hy
   have:i=n:=by
    have:=(List.getElem?_eq_some_iff.1 hy).1
    simp at this; omega
   subst this
   rw [h1] at hy
   simp at hy
   exact hy ▸ hx
theorem GyM (a:Addr) (n m:Nat):(a.add n).add m=a.add (n+m):=by
 obtain ⟨b,o,s⟩:=a
 unfold Addr.add
 by_cases hn:n=0 <;> by_cases hm:m=0 <;> simp [hn,hm,Nat.add_assoc]
end
noncomputable section
open Go.RowKit Go.ChangeShapes Go.WideShapes Go.ChangeAt
variable {P:Program} {W:World} {H:Type} {enc:TypeId×Value→H} {sp:Nat→Bool} {held:Bool}
def Vc {X:Type} (f:X→List AV) (l:List X):List AV:=[.lst (fl f l) l.length]
def lwf {X:Type} (wf:X→Prop) (l:List X):Prop:=l.length≤maxLen∧∀ x ∈ l,wf x
end
noncomputable section
end
noncomputable section
def GAi {H:Type}:DataW H→Value
 | .lit (.int k n)=>.int k n
 | _=>undef
def Gyy {H:Type}:DataW H→Array Value
 | .agg l=>(l.map GAi).toArray
 | _=>#[]
def GmQ (g:Nat) (c:Array Value) (h:Array Obj):Array Obj:=h.modify g fun | .cells _ t frozen=>.cells c t frozen | o=>o
end
noncomputable section
open Go.RowKit Go.ChangeShapes Go.WideShapes Go.ChangeAt
variable {P:Program} {W:World} {H:Type} {enc:TypeId×Value→H} {sp:Nat→Bool} {held:Bool}
theorem GfX {e:TypeId} {n:Nat} {d:DataW H}:∀ {l:List (DataW H)},d ∈ l→n ∈ d.weights P e→n ∈ DataW.weightsAll P e l
 | x::l,h,hn=>by
  simp only [DataW.weightsAll,List.mem_append]
  rcases List.mem_cons.1 h with rfl | h
  ·exact .inl hn
  ·exact .inr (GfX h hn)
theorem Gyi {ts:List TypeId} {ds:List (DataW H)} (h:(DataW.weightsEach P ts ds).all (·≤ reachBytes)=true) (j:Nat) {t:TypeId} {d:DataW H} (ht:ts[j]?=some t) (hd:ds[j]?=some d):∀ k ∈ d.weights P t,k≤reachBytes:=fun k hk=>by
 have:=List.all_eq_true.1 h k (DataW.weights_mem_each ht hd k hk)
 simpa using this
def Ge7 (P:Program):Nat→TypeId→List AV→Prop
 | 0,_,_=>False
 | n+1,t,c=>
  match P.underlying t with
  | some .bool=>∃ b,c=[.bool b]
  | some (.int k)=>∃ z,c=[.int k z]∧GS k z
  | some .string=>∃ s:List UInt8,c=[.str s]∧s.length≤reachBytes
  | some (.slice e)=>∃ es:List (List AV),c=[.lst es.flatten es.length]∧es.length≤maxLen∧(∀ x ∈ es,Ge7 P n e x)∧es.length*P.bytesOf e≤reachBytes
  | some (.struct fs)=>KL (Ge7 P n) fs.toList c
  | _=>False
theorem GmZ:∀ (n fuel:Nat) (t:TypeId) (cs:List Value) (x:DataW H×List MemPlace),GmK P n t=true→DataW.trod enc P W 0 sp held fuel t cs=some x→(∀ k ∈ x.1.weights P t,k≤reachBytes)→
  ∃ c,Ge7 P n t c∧GQ (fun _=>none) (roW W) W false c cs∧cs.length=P.cellsOf t
 | 0,_,_,_,_,hp,_,_=>by cases hp
 | n+1,fuel,t,cs,x,hp,h,hz=>by
  unfold GmK at hp
  split at hp
  ·rename_i hu
   obtain ⟨b,rfl,_⟩:=DataW.trod_bool hu h
   exact ⟨[.bool b],by simp [Ge7,hu],GQ.cons .bool GQ.nil,(Nat.eq_of_beq_eq_true hp).symm⟩
  ·rename_i k hu
   obtain ⟨z,rfl,_,hw⟩:=DataW.trod_int hu h
   refine ⟨[.int k z],?_,GQ.cons .int GQ.nil,(Nat.eq_of_beq_eq_true hp).symm⟩
   simp only [Ge7,hu]
   refine ⟨z,rfl,?_⟩
   simp only [Lit.wf,Bool.and_eq_true,decide_eq_true_eq] at hw
   exact hw
  ·rename_i hu
   obtain ⟨s,rfl,rfl,hs⟩:=DataW.trod_string hu h
   refine ⟨[.str s.data.toList],?_,GQ.cons (.str rfl) GQ.nil,(Nat.eq_of_beq_eq_true hp).symm⟩
   simp only [Ge7,hu]
   exact ⟨_,rfl,hz _ (by simp [DataW.weights])⟩
  ·rename_i e hu
   simp only [Bool.and_eq_true] at hp
   have hc1:=(Nat.eq_of_beq_eq_true hp.1).symm
   rcases DataW.trod_slice hu h with ⟨rfl,_⟩ | ⟨a,len,cap,elems,rest,m,_,rfl,hxe,hb,hl,hm,hlen,hel,_,_⟩
   ·refine ⟨[.lst [] 0],?_,GQ.cons .lstn GQ.nil,hc1⟩
    simp only [Ge7,hu]
    exact ⟨[],rfl,Nat.zero_le _,fun x hx=>(by cases hx),by simp⟩
   ·have hwt:=hz _ (by rw [hxe]; simp only [DataW.weights,hu]; exact List.mem_cons_self ..)
    have GJ:∀ i,i<len→∃ q:List AV×List Value,Ge7 P n e q.1∧GQ (fun _=>none) (roW W) W false q.1 q.2∧q.2.length=P.cellsOf e∧W.cells? 0 (a.add (i*P.cellsOf e)) (P.cellsOf e)=some q.2:=fun i hi=>by
     have h1:=hel i hi
     rw [List.getElem?_eq_getElem (by omega),Option.bind_eq_some_iff] at h1
     obtain ⟨vs,h2,h3⟩:=h1
     obtain ⟨c,h4,h5,h6⟩:=GmZ n m e vs _ hp.2 h3 fun k hk=>hz k (by
      rw [hxe]
      simp only [DataW.weights,hu,List.mem_cons,List.mem_append]
      exact .inr (.inl (GfX (List.mem_map.2 ⟨_,List.getElem_mem (by omega),rfl⟩) hk)))
     exact ⟨(c,vs),h4,h5,h6,h2⟩
    obtain ⟨l,hl1,hl2⟩:=Gy5 GJ
    refine ⟨[.lst (l.map (·.1)).flatten len],?_,?_,hc1⟩
    ·simp only [Ge7,hu]
     refine ⟨l.map (·.1),by simp [hl1],by simp [hl1]; omega,fun y hy=>?_,?_⟩
     rotate_left
     ·rw [List.length_map,hl1]
      exact Nat.le_trans (Nat.mul_le_mul_right _ (by simp; omega)) hwt
     obtain ⟨q,hq,rfl⟩:=List.mem_map.1 hy
     obtain ⟨i,hi,rfl⟩:=List.getElem_of_mem hq
     exact (hl2 i _ (List.getElem?_eq_getElem hi)).1
    ·refine GQ.cons ?_ GQ.nil
     have hz:∀ y ∈ l.map (·.1),y.length=P.cellsOf e:=fun y hy=>by
      obtain ⟨q,hq,rfl⟩:=List.mem_map.1 hy
      obtain ⟨i,hi,rfl⟩:=List.getElem_of_mem hq
      obtain ⟨_,h2,h3,_⟩:=hl2 i _ (List.getElem?_eq_getElem hi)
      rw [← h2.1]; exact h3
     have hfl:=Gnm hz
     by_cases hne:(l.map (·.1)).flatten=[]
     ·rw [hne]
      exact .lst (fun _=>undef) (fun h=>absurd rfl h) (fun i hi=>by simp at hi) (fun i hi=>by simp at hi) hl
     have hz0:0<P.cellsOf e:=by
      rcases Nat.eq_zero_or_pos (P.cellsOf e) with h0 | h0
      ·rw [h0,Nat.mul_zero] at hfl
       exact absurd (List.length_eq_zero_iff.1 hfl) hne
      ·exact h0
     have cell:∀ i,i<(l.map (·.1)).flatten.length→∃ v,W.cell? (a.add i)=some v∧G1 (fun _=>none) (roW W) W false ((l.map (·.1)).flatten.getD i .any) v:=fun i hi=>by
      rw [hfl,List.length_map] at hi
      have hq:i / P.cellsOf e<l.length:=Nat.div_lt_of_lt_mul (by rw [Nat.mul_comm]; exact hi)
      have hr:=Nat.mod_lt i hz0
      have hi2:i=i / P.cellsOf e*P.cellsOf e+i % P.cellsOf e:=by rw [Nat.mul_comm]; exact (Nat.div_add_mod i _).symm
      obtain ⟨_,h2,h3,h4⟩:=hl2 _ _ (List.getElem?_eq_getElem hq)
      obtain ⟨_,_,h6⟩:=World.cells?_some h4
      have h7:=h6 (i % P.cellsOf e) hr
      refine ⟨(l[i / P.cellsOf e].2).getD (i % P.cellsOf e) undef,?_,?_⟩
      ·rw [Gin _ _ undef (by omega)] at h7
       rw [← h7]
       rw [GyM,← hi2]
      ·have h8:=h2.2 (i % P.cellsOf e) (by rw [← h2.1]; omega)
       have e1:(l.map (·.1)).flatten.getD i .any=(l[i / P.cellsOf e].1).getD (i % P.cellsOf e) .any:=by
        rw [List.getD_eq_getElem?_getD]
        conv=>lhs; rw [hi2]
        rw [Gnl hz hr,List.getElem?_map,List.getElem?_eq_getElem hq]
        simp [List.getD]
       rw [e1]
       exact h8
     have hsp:a.spot=none∧a.block<W.heap.size:=by
      obtain ⟨v,h1,_⟩:=cell 0 (List.length_pos_iff.2 hne)
      obtain ⟨b,o,s⟩:=a
      cases s with
      | some s=>
       have hnone:W.cell? ((⟨b,o,some s⟩:Addr).add 0)=none:=by unfold World.cell?; split <;> simp [Addr.add]
       rw [hnone] at h1; cases h1
      | none=>
       refine ⟨rfl,?_⟩
       cases hh:W.heap[b]? with
       | none=>simp [Addr.add,World.cell?,hh] at h1
       | some x=>exact (Array.getElem?_eq_some_iff.1 hh).1
     obtain ⟨b,o,s⟩:=a
     obtain ⟨rfl,hbl⟩:=hsp
     refine .lst (fun i=>((W.cell? ⟨b,o+i,none⟩).getD undef)) (fun _=>⟨hbl,rfl⟩) (fun i hi=>?_) (fun i hi=>?_) hl
     ·obtain ⟨v,h1,_⟩:=cell i hi
      rw [Ko] at h1
      simp [h1]
     ·obtain ⟨v,h1,h2⟩:=cell i hi
      rw [Ko] at h1
      simp only [h1,Option.getD_some]
      exact h2
  ·rename_i fs hu
   simp only [Bool.and_eq_true] at hp
   obtain ⟨xs,m,_,hxe,hl,hxl,hf⟩:=DataW.trod_struct hu h
   have main:∀ (gs:List Field) (o:Nat),(∀ (i:Nat) f,gs[i]?=some f→∃ y,DataW.trod enc P W 0 sp held m f.type ((cs.drop f.offset).take (P.cellsOf f.type))=some y∧∀ k ∈ y.1.weights P f.type,k≤reachBytes)→gs.all (fun f=>GmK P n f.type)=true→Gy4 P gs o (P.cellsOf t)=true→
     ∃ c,KL (Ge7 P n) gs c∧GQ (fun _=>none) (roW W) W false c (cs.drop o):=fun gs=>by
    induction gs with
    | nil=>
     intro o _ _ hlay
     have:=Nat.eq_of_beq_eq_true hlay
     refine ⟨[],rfl,?_⟩
     rw [List.drop_eq_nil_of_le (by omega)]
     exact GQ.nil
    | cons f gs ih=>
     intro o hg hall hlay
     simp only [List.all_cons,Bool.and_eq_true] at hall
     simp only [Gy4,Bool.and_eq_true] at hlay
     have ho:=Nat.eq_of_beq_eq_true hlay.1
     obtain ⟨y,hy,hyz⟩:=hg 0 f rfl
     obtain ⟨c1,h1,h2,h3⟩:=GmZ n m f.type _ y hall.1 hy hyz
     obtain ⟨c2,h4,h5⟩:=ih (o+P.cellsOf f.type) (fun i f' hf'=>hg (i+1) f' (by simpa using hf')) hall.2 hlay.2
     refine ⟨c1++c2,⟨c1,c2,rfl,h1,h4⟩,?_⟩
     rw [ho] at h2
     have:=h2.app h5
     rwa [← List.drop_drop,List.take_append_drop] at this
   obtain ⟨c,h1,h2⟩:=main fs.toList 0 (fun i f hi=>by
    have hi':fs[i]?=some f:=by simpa using hi
    have hlt:i<fs.size:=(Array.getElem?_eq_some_iff.1 hi').1
    exact ⟨xs[i],by rw [hf i f hi',List.getElem?_eq_getElem (by omega)],fun k hk=>hz k (by
     rw [hxe]
     simp only [DataW.weights,hu]
     exact DataW.weights_mem_each (j:=i) (t:=f.type) (d:=xs[i].1) (by simp [hi]) (by simp [List.getElem?_eq_getElem (show i<xs.length by omega)]) k hk)⟩) hp.1 hp.2
   refine ⟨c,?_,by simpa using h2,hl⟩
   simp only [Ge7,hu]
   exact h1
  ·cases hp
def GG (P:Program) (n:Nat) (t:TypeId) {X:Type} (f:X→List AV) (wf:X→Prop):Prop:=∀ c,Ge7 P n t c→∃ x:X,c=f x∧wf x
def JR (s:List UInt8):Prop:=s.length≤reachBytes
theorem GM {n:Nat} {t:TypeId} {k:IntKind} (hu:P.underlying t=some (.int k)):GG P (n+1) t (fun z:Int=>[.int k z]) (GS k):=fun c h=>by
 simp only [Ge7,hu] at h
 obtain ⟨z,h1,h2⟩:=h
 exact ⟨z,h1,h2⟩
theorem GhP {n:Nat} {t:TypeId} (hu:P.underlying t=some .bool):GG P (n+1) t (fun b:Bool=>[.bool b]) (fun _=>True):=fun c h=>by
 simp only [Ge7,hu] at h
 obtain ⟨z,h1⟩:=h
 exact ⟨z,h1,trivial⟩
theorem Ha {n:Nat} {t:TypeId} {fs:Array Field} {c:List AV} (hu:P.underlying t=some (.struct fs)) (h:Ge7 P (n+1) t c):KL (Ge7 P n) fs.toList c:=by
 simp only [Ge7,hu] at h
 exact h
theorem Hi {n:Nat} {t:TypeId} (hu:P.underlying t=some .string):GG P (n+1) t (fun s:List UInt8=>[.str s]) JR:=fun c h=>by
 simp only [Ge7,hu] at h
 obtain ⟨z,h1,h2⟩:=h
 exact ⟨z,h1,h2⟩
def Jv {X:Type} (b:Nat) (wf:X→Prop) (l:List X):Prop:=lwf wf l∧l.length*b≤reachBytes
theorem G7 {n:Nat} {t e:TypeId} {X:Type} {f:X→List AV} {wf:X→Prop} {b:Nat} (hu:P.underlying t=some (.slice e)) (hb:P.bytesOf e=b) (he:GG P n e f wf):GG P (n+1) t (Vc f) (Jv b wf):=fun c h=>by
 simp only [Ge7,hu] at h
 obtain ⟨es,rfl,h1,h2,hr⟩:=h
 rw [hb] at hr
 have:∃ l:List X,es=l.map f∧∀ x ∈ l,wf x:=by
  clear h1 hr
  induction es with
  | nil=>exact ⟨[],rfl,fun x hx=>by cases hx⟩
  | cons c es ih=>
   obtain ⟨l,rfl,h3⟩:=ih fun x hx=>h2 x (List.mem_cons_of_mem _ hx)
   obtain ⟨x,rfl,h4⟩:=he c (h2 c (List.mem_cons_self ..))
   exact ⟨x::l,rfl,fun y hy=>by rcases List.mem_cons.1 hy with rfl | hy; exact h4; exact h3 y hy⟩
 obtain ⟨l,rfl,h3⟩:=this
 refine ⟨l,?_,⟨by simpa using h1,h3⟩,by simpa using hr⟩
 simp [Vc,fl,List.flatMap]
theorem Gxz {n:Nat} {t:TypeId} {v:Value} {d:DataW H} {ps:List MemPlace} {X:Type} {f:X→List AV} {wf:X→Prop} (hr:GG P n t f wf) (hp:GmK P n t=true) (hv:∃ cs,v=.agg cs)
  (h:DataW.Trod enc P W 0 sp held t v d ps) (hz:∀ k ∈ d.weights P t,k≤reachBytes):∃ x,G1 (fun _=>none) (fun b=>b<W.heap.size) W false (.agg (f x)) v∧wf x:=by
 obtain ⟨fuel,h⟩:=h
 obtain ⟨cs,rfl⟩:=hv
 obtain ⟨c,h1,h2,_⟩:=GmZ n fuel t _ _ hp h hz
 obtain ⟨x,rfl,hw⟩:=hr c h1
 refine ⟨x,?_,hw⟩
 have:=h2.agg
 simpa [Value.cells] using this
end
end Go.Proofs.YtdifanfcaemokaaGreatDoor.Av
