import Derived.Test.YtdifanfcaemokaaGreatDoorAvD
open Prod (fst)
open Int (tdiv tmod)
set_option linter.unusedVariables false
set_option linter.unusedSimpArgs false
namespace Go.Proofs.YtdifanfcaemokaaGreatDoor.Av
noncomputable section
open Go.RowKit
variable {P:Program} {μ μ':Nat→Option HY} {ro ro':Nat→Prop} {w w':World}
/-! ### constants -/
def Grg:Value→AV
 | .bool b=>.bool b
 | .int k n=>.int k n
 | .string b=>.str b.data.toList
 | .pointer a=>match a with | none=>.nilp | some _=>.any
 | .slice a l c=>match a,l,c with | none,0,0=>.nils | _,_,_=>.any
 | .map a=>match a with | none=>.nilm | some _=>.any
 | .nilFunc=>.nilf
 | .nilIface=>.nili
 | .func f a c=>match a.toList,c.toList with | [],[]=>.fn f [] [] | _,_=>.any
 | _=>.any
def cst:Value→AV
 | .agg cs=>.agg (cs.toList.map Grg)
 | .tuple cs=>.tup (cs.toList.map Grg)
 | .iface t v=>.ifc t (Grg v)
 | v=>Grg v
theorem Gou (v:Value) {o:Bool}:G1 μ ro w o (Grg v) v:=by
 cases v <;> simp only [Grg]
 case bool=>exact .bool
 case int=>exact .int
 case string=>exact .str rfl
 case pointer a=>cases a <;> first | exact .nilp | exact .any
 case map a=>cases a <;> first | exact .nilm | exact .any
 case slice a l c=>
  split
  ·exact .nils
  ·exact .any
 case func f a c=>
  split
  ·rename_i h1 h2
   exact .fn (by rw [← Array.length_toList,h1]; rfl) (fun i hi=>by simp at hi) (by rw [← Array.length_toList,h2]; rfl) (fun i hi=>by simp at hi)
  ·exact .any
 case nilFunc=>exact .nilf
 case nilIface=>exact .nili
 all_goals exact .any
theorem Gth (cs:List Value) {o:Bool}:GQ μ ro w o (cs.map Grg) cs:=by
 refine ⟨by simp,fun i hi=>?_⟩
 rw [List.length_map] at hi
 have:(cs.map Grg).getD i .any=Grg (cs.getD i undef):=by simp [List.getD,List.getElem?_eq_getElem hi]
 rw [this]
 exact Gou _
theorem QH (v:Value) {o:Bool}:G1 μ ro w o (cst v) v:=by
 unfold cst
 split
 ·rename_i cs
  have:=(Gth (μ:=μ) (ro:=ro) (w:=w) (o:=o) cs.toList).agg
  rwa [Array.toArray_toList] at this
 ·rename_i cs
  have:=(Gth (μ:=μ) (ro:=ro) (w:=w) (o:=o) cs.toList).tup
  rwa [Array.toArray_toList] at this
 ·exact .ifc (Gou _)
 ·exact Gou _
def AV.pl1:AV→Bool
 | .bool _ | .int _ _ | .str _ | .nilp | .rop _ _ | .lst _ _ | .nils | .nen | .nilf | .nili | .nilm=>true
 | .fn _ [] []=>true
 | _=>false
def AV.pl:AV→Bool
 | .ifc _ v=>v.pl1
 | .agg c=>c.all AV.pl1
 | v=>v.pl1
theorem G1.pl1 {v:AV} {x:Value} {o o':Bool} (h:G1 μ ro w o v x) (hp:v.pl1=true):G1 μ ro w o' v x:=by
 cases h with
 | any=>simp [AV.pl1] at hp
 | bool=>exact .bool
 | int=>exact .int
 | str h=>exact .str h
 | ptr h=>simp [AV.pl1] at hp
 | nilp=>exact .nilp
 | rop vs hb hc hr=>exact .rop vs hb hc hr
 | sl h=>simp [AV.pl1] at hp
 | vec h=>simp [AV.pl1] at hp
 | vecn=>simp [AV.pl1] at hp
 | lst vs hb hc hr hn=>exact .lst vs hb hc hr hn
 | lstn=>exact .lstn
 | nils=>exact .nils
 | nen=>exact .nen
 | agg hn hr=>simp [AV.pl1] at hp
 | tup hn hr=>simp [AV.pl1] at hp
 | @fn _ f a c as cs hn hr hm hs=>
  cases a with
  | cons x l=>simp [AV.pl1] at hp
  | nil=>
   cases c with
   | cons x l=>simp [AV.pl1] at hp
   | nil=>exact .fn hn (fun i hi=>by simp at hi) hm (fun i hi=>by simp at hi)
 | nilf=>exact .nilf
 | ifc h=>simp [AV.pl1] at hp
 | nili=>exact .nili
 | mapr h=>simp [AV.pl1] at hp
 | yld h=>simp [AV.pl1] at hp
 | stp h=>simp [AV.pl1] at hp
 | nilm=>exact .nilm
theorem Gxy {c:List AV} (hp:c.all AV.pl1=true) {i:Nat} (hi:i<c.length):(c.getD i .any).pl1=true:=by
 rw [List.all_eq_true] at hp
 rw [List.getD_eq_getElem?_getD,List.getElem?_eq_getElem hi]
 exact hp _ (List.getElem_mem hi)
theorem G1.pl {v:AV} {x:Value} {o o':Bool} (h:G1 μ ro w o v x) (hp:v.pl=true):G1 μ ro w o' v x:=by
 cases h with
 | ifc h=>exact .ifc (h.pl1 hp)
 | agg hn hr=>exact .agg hn fun i hi=>(hr i hi).pl1 (Gxy hp hi)
 | tup hn hr=>simp [AV.pl,AV.pl1] at hp
 | any=>simp [AV.pl,AV.pl1] at hp
 | bool=>exact .bool
 | int=>exact .int
 | str h=>exact .str h
 | ptr h=>simp [AV.pl,AV.pl1] at hp
 | nilp=>exact .nilp
 | rop vs hb hc hr=>exact .rop vs hb hc hr
 | sl h=>simp [AV.pl,AV.pl1] at hp
 | vec h=>simp [AV.pl,AV.pl1] at hp
 | vecn=>simp [AV.pl,AV.pl1] at hp
 | lst vs hb hc hr hn=>exact .lst vs hb hc hr hn
 | lstn=>exact .lstn
 | nils=>exact .nils
 | nen=>exact .nen
 | fn hn hr hm hs=>exact G1.pl1 (.fn hn hr hm hs) hp
 | nilf=>exact .nilf
 | nili=>exact .nili
 | mapr h=>simp [AV.pl,AV.pl1] at hp
 | yld h=>simp [AV.pl,AV.pl1] at hp
 | stp h=>simp [AV.pl,AV.pl1] at hp
 | nilm=>exact .nilm
theorem G1.any_or {v:AV} {x:Value} {o:Bool} (h:G1 μ ro w o v x):G1 μ ro w true v x:=by
 cases o
 ·exact h.up
 ·exact h
theorem GQ.pl {c:List AV} {vs:List Value} {o o':Bool} (h:GQ μ ro w o c vs) (hp:c.all AV.pl=true):GQ μ ro w o' c vs:=by
 refine ⟨h.1,fun i hi=>(h.2 i hi).pl ?_⟩
 rw [List.all_eq_true] at hp
 rw [List.getD_eq_getElem?_getD,List.getElem?_eq_getElem hi]
 exact hp _ (List.getElem_mem hi)
theorem GQ.plx {c:List AV} {vs:List Value} (h:GQ μ ro w true c vs):GQ μ ro w (!c.all AV.pl) c vs:=by
 cases hp:c.all AV.pl with
 | true=>exact h.pl hp
 | false=>exact h
def Hp.cells (h:Hp) (c:List AV) (e:TypeId) (ext:Bool):Hp:=h.new (.blk ⟨c,e,ext,0,c.all AV.pl,false,none⟩)
theorem KZ.cells {s:Sem Value} {h:Hp} {cs:Array Value} {e:TypeId} {c:List AV} {v:AV} {v':Value} (hh:GV μ ro h w)
  (hr:s.run P w=.ok v' (w.alloc (.cells cs e))) (hc:GQ μ ro w true c cs.toList)
  (hv:G1 (upd μ h.nx (w.heap.size,cs.size)) ro (w.alloc (.cells cs e)) true v v'):KZ P s μ ro w h.nx v (h.cells c e false):=by
 refine KZ.of_new hh hr rfl (by have:=hc.1; simp at this; simp [this]) (fun _=>by have:=hc.1; simpa using this) (fun i hi=>?_) hv
 have:=hc.plx.2 i hi
 rwa [G5 cs] at this
theorem Ky (n:Nat) (m:HY):upd μ n m n=some m:=by simp [upd]
def Gxh (e:TypeId) (v:AV) (h:Hp):Option (AV×Hp):=
 match v with
 | .any=>none
 | v=>some (.ptr h.nx 0,h.cells v.cells e false)
theorem Gp2 {e:TypeId} {v:AV} {x:Value} {h:Hp} {r:AV×Hp} (ha:Gxh e v h=some r) (hv:G1 μ ro w true v x) (hh:GV μ ro h w):
  KZ P (Instr.box e x) μ ro w h.nx r.1 r.2:=by
 unfold Gxh at ha
 split at ha
 ·cases ha
 ·rename_i hne
  simp only [sJ] at ha
  subst ha
  refine KZ.cells hh (cs:=x.cells) (v':=.pointer (some ⟨w.heap.size,0,none⟩)) ?_ (hv.cells hne) (.ptr (Ky _ _))
  simp [Instr.box,newVar,newRow,Result.andThen]
def GqL (P:Program) (e:TypeId) (h:Hp):Option (AV×Hp):=
 match P.info? e with
 | some i=>match i.zero with | some z=>Gxh e (cst z) h | none=>none
 | none=>none
theorem Gsb {e:TypeId} {h:Hp} {r:AV×Hp} (ha:GqL P e h=some r) (hh:GV μ ro h w):KZ P (Instr.alloc e true (.tuple #[])) μ ro w h.nx r.1 r.2:=by
 unfold GqL at ha
 split at ha
 ·rename_i i hi
  split at ha
  ·rename_i z hz
   obtain ⟨v',w',μ',h1,h2⟩:=Gp2 (P:=P) ha (QH z) hh
   exact ⟨v',w',μ',by simp only [Instr.alloc,Sem.run_bind,ZB hi hz,Result.andThen_ok]; exact h1,h2⟩
  ·cases ha
 ·cases ha
/-! ### struct and slice literals -/
def Gkx (c:List AV) (off:Nat):List AV→List AV
 | []=>c
 | v::vs=>Gkx (c.set off v) (off+1) vs
theorem Zd:∀ (vs c:List AV) (off:Nat),(Gkx c off vs).length=c.length
 | [],_,_=>rfl
 | v::vs,c,off=>by simp [Gkx,Zd vs]
theorem GmP {o:Bool}:∀ (ds:List AV) (c:List AV) (cs:Array Value) (xs:List Value) (off:Nat),GQ μ ro w o c cs.toList→GQ μ ro w o ds xs→
  GQ μ ro w o (Gkx c off ds) (R5 cs off xs).toList
 | [],c,cs,xs,off,hc,hd=>by
  have:xs=[]:=List.length_eq_zero_iff.1 (by simpa using hd.1)
  subst this; exact hc
 | d::ds,c,cs,xs,off,hc,hd=>by
  obtain ⟨x,xs',rfl,h1,h2⟩:=hd.head
  refine GmP ds _ _ _ _ ⟨?_,fun i hi=>?_⟩ h2
  ·simpa using hc.1
  ·simp only [List.length_set] at hi
   have hs:i<cs.size:=by have:=hc.1; simp at this; omega
   rw [G5]
   by_cases e:off=i
   ·subst e
    simpa [List.getD,List.getElem?_set,hi,Array.getD,hs] using h1
   ·have:=hc.2 i hi
    rw [G5] at this
    simpa [List.getD,List.getElem?_set,e,Array.getD,hs,Array.getElem_setIfInBounds_ne,e] using this
theorem GoK:∀ (l:List Value) (cs:Array Value) (off k:Nat),
  (l.zipIdx k).foldl (fun cs (x:Value×Nat)=>cs.setIfInBounds (off+x.2) x.1) cs=R5 cs (off+k) l
 | [],_,_,_=>rfl
 | v::l,cs,off,k=>by
  simp only [List.zipIdx_cons,List.foldl_cons,R5]
  rw [GoK l _ off (k+1)]
  rfl
def AV.isAny:AV→Bool
 | .any=>true
 | _=>false
theorem AV.not_any {v:AV} (h:(!v.isAny)=true):v≠.any:=by
 rintro rfl; simp [AV.isAny] at h
def Goh (place:Nat→Option (Nat×Nat)) (c:List AV):List (Nat×AV)→Option (List AV)
 | []=>some c
 | (i,v)::rest=>
  match place i with
  | some (off,size)=>match !v.isAny&&(Nat.beq v.cells.length size&&Nat.ble (off+size) c.length) with | true=>Goh place (Gkx c off v.cells) rest | false=>none
  | none=>none
theorem Gic {place:Nat→Option (Nat×Nat)} {o:Bool}:∀ (parts:List (Nat×AV)) (ps:List (Nat×Value)) (c d:List AV) (cs:Array Value),Goh place c parts=some d→
  GQ μ ro w o c cs.toList→ps.length=parts.length→(∀ i (h:i<parts.length) (h':i<ps.length),(ps[i]).1=(parts[i]).1∧G1 μ ro w o (parts[i]).2 (ps[i]).2)→
  ∃ ds,Instr.fill place cs ps=some ds∧GQ μ ro w o d ds.toList∧d.length=c.length
 | [],ps,c,d,cs,h,hc,hl,hp=>by
  have:ps=[]:=List.length_eq_zero_iff.1 (by simpa using hl)
  subst this
  simp only [Goh,sJ] at h
  exact ⟨cs,rfl,h ▸ hc,h ▸ rfl⟩
 | (i,v)::rest,ps,c,d,cs,h,hc,hl,hp=>by
  cases ps with
  | nil=>simp at hl
  | cons p ps=>
   obtain ⟨j,x⟩:=p
   have h0:=hp 0 (by simp) (by simp)
   simp only [List.getElem_cons_zero] at h0
   obtain ⟨rfl,hv⟩:=h0
   simp only [Goh] at h
   split at h
   ·rename_i off size hpl
    split at h
    ·rename_i hb
     simp only [Bool.and_eq_true] at hb
     have hsz:=Nat.eq_of_beq_eq_true hb.2.1
     have hle:=nB hb.2.2
     have hcells:=hv.cells (AV.not_any hb.1)
     obtain ⟨ds,h1,h2,h3⟩:=Gic rest ps _ d _ h (GmP v.cells c cs x.cells.toList off hc hcells) (by simpa using hl)
      (fun i h1 h2=>by have:=hp (i+1) (by simpa using h1) (by simpa using h2); simpa using this)
     refine ⟨ds,?_,h2,by rw [h3,Zd]⟩
     have e1:x.cells.size=v.cells.length:=by simpa using hcells.1
     have e2:cs.size=c.length:=by simpa using hc.1
     simp only [Instr.fill,hpl]
     rw [if_neg (by simp; omega)]
     rw [← h1]
     congr 1
     have:=GoK x.cells.toList cs off 0
     rw [Nat.add_zero] at this
     rw [← this,← Array.foldl_toList]
     simp [Array.toList_zipIdx]
    ·cases h
   ·cases h
def Y0 (P:Program) (fs:Array Field):List Field→Option (List (Nat×Nat))
 | []=>some []
 | f::l=>match Ug P f.type,Y0 P fs l with | some n,some r=>some ((f.offset,n)::r) | _,_=>none
theorem GfM {fs:Array Field}:∀ (l:List Field) (r:List (Nat×Nat)) (w:World),Y0 P fs l=some r→
  (l.mapM fun f=>do pure (f.offset,← sizeOf f.type):Sem (List (Nat×Nat))).run P w=.ok r w
 | [],r,w,h=>by simp only [Y0,sJ] at h; subst h; rfl
 | f::l,r,w,h=>by
  simp only [Y0] at h
  split at h
  ·rename_i n r' hn hr
   simp only [sJ] at h
   subst h
   cases hi:P.info? f.type with
   | none=>simp [Ug,hi] at hn
   | some i=>
    simp only [Ug,hi,Option.map_some,sJ] at hn
    subst hn
    simp only [List.mapM_cons,Sem.run_bind,Hy hi,GfM l r' w hr,Result.andThen_ok,Sem.run_pure]
  ·cases h
def GqP (P:Program) (t:TypeId) (parts:List (Nat×AV)):Option AV:=
 match P.info? t,P.underlying t with
 | some i,some (.struct fs)=>
  match i.zero,Y0 P fs fs.toList with
  | some z,some pl=>match cst z with | .any=>none | z=>(Goh (fun (i:Nat)=>pl[i]?) z.cells parts).map .agg
  | _,_=>none
 | some i,some (.array _ e)=>
  match i.zero,Ug P e with
  | some z,some n=>match cst z with | .any=>none | z=>(Goh (fun i=>some (i*n,n)) z.cells parts).map .agg
  | _,_=>none
 | _,_=>none
theorem Gtx {t:TypeId} {parts:List (Nat×AV)} {ps:List (Nat×Value)} {v:AV} {o:Bool} (h:GqP P t parts=some v) (hl:ps.length=parts.length)
  (hp:∀ i (h:i<parts.length) (h':i<ps.length),(ps[i]).1=(parts[i]).1∧G1 μ ro w o (parts[i]).2 (ps[i]).2):
  ∃ v',(∀ w,(Instr.build t ps.toArray).run P w=.ok v' w)∧G1 μ ro w o v v':=by
 unfold GqP at h
 split at h
 ·rename_i i fs hi hu
  split at h
  ·rename_i z pl hz hpl
   split at h
   ·cases h
   ·rename_i hne
    simp only [Option.map_eq_some_iff] at h
    obtain ⟨d,hd,rfl⟩:=h
    have hzr:=(QH (μ:=μ) (ro:=ro) (w:=w) (o:=o) z).cells hne
    obtain ⟨ds,h1,h2,_⟩:=Gic parts ps _ d z.cells hd hzr hl hp
    have:=h2.agg
    rw [Array.toArray_toList] at this
    refine ⟨.agg ds,fun w=>?_,this⟩
    have hpl':=fun w=>GfM (P:=P) (fs:=fs) fs.toList pl w hpl
    have hpl'':∀ w,(fs.mapM fun f=>do pure (f.offset,← sizeOf f.type):Sem (Array (Nat×Nat))).run P w=.ok pl.toArray w:=fun w=>by
     rw [Array.mapM_eq_mapM_toList,Sem.run_map,hpl' w]
     rfl
    simp only [Instr.build,Sem.run_bind,ZB hi hz,GB hu,Result.andThen_ok,hpl'']
    have:(fun (x:Nat)=>pl.toArray[x]?)=(fun (i:Nat)=>pl[i]?):=by funext x; simp
    simp [this,h1]
  ·cases h
 ·rename_i i n e hi hu
  split at h
  ·rename_i z n hz hn
   split at h
   ·cases h
   ·rename_i hne
    simp only [Option.map_eq_some_iff] at h
    obtain ⟨d,hd,rfl⟩:=h
    have hzr:=(QH (μ:=μ) (ro:=ro) (w:=w) (o:=o) z).cells hne
    obtain ⟨ds,h1,h2,_⟩:=Gic parts ps _ d z.cells hd hzr hl hp
    have:=h2.agg
    rw [Array.toArray_toList] at this
    refine ⟨.agg ds,fun w=>?_,this⟩
    cases hj:P.info? e with
    | none=>simp [Ug,hj] at hn
    | some j=>
     simp only [Ug,hj,Option.map_some,sJ] at hn
     subst hn
     simp [Instr.build,ZB hi hz,GB hu,Hy hj,Result.andThen,h1]
  ·cases h
 ·cases h
end
noncomputable section
open Go.RowKit
variable {P:Program} {μ μ':Nat→Option HY} {ro ro':Nat→Prop} {w w':World}
theorem GaN {t:TypeId} {n:Nat} (h:Ug P t=some n):∃ i,P.info? t=some i∧i.size=n:=by
 unfold Ug at h
 cases hi:P.info? t with
 | none=>simp [hi] at h
 | some i=>exact ⟨i,rfl,by simpa [hi] using h⟩
def Gh2 (z:List AV) (n:Nat):List AV:=match z with | [v]=>List.replicate n v | z=>(List.replicate n z).flatten
theorem Glz {α:Type} [Inhabited α] (z:List α) (d:α):∀ (n i:Nat),i<n*z.length→((List.replicate n z).flatten).getD i d=z.getD (i % z.length) d
 | 0,i,h=>by simp at h
 | n+1,i,h=>by
  rw [Nat.add_mul,Nat.one_mul] at h
  rw [List.replicate_succ,List.flatten_cons]
  by_cases hi:i<z.length
  ·simp [List.getD,List.getElem?_append_left hi,Nat.mod_eq_of_lt hi]
  ·have hz:0<z.length:=by
    rcases Nat.eq_zero_or_pos z.length with e | e
    ·rw [e] at h; omega
    ·exact e
   have:=Glz z d n (i - z.length) (by omega)
   simp only [List.getD] at this ⊢
   rw [List.getElem?_append_right (by omega),this,Nat.mod_eq_sub_mod (Nat.le_of_not_lt hi)]
theorem Xw (z:List AV) (n:Nat):(Gh2 z n).length=n*z.length:=by
 unfold Gh2
 split <;> simp
theorem Gvq (z:List AV) (n i:Nat) (h:i<n*z.length):(Gh2 z n).getD i .any=z.getD (i % z.length) .any:=by
 unfold Gh2
 split
 ·rename_i v
  have h':i<n:=by simpa using h
  have:i % 1=0:=Nat.mod_one i
  simp [List.getD,h',this]
 ·exact Glz z .any n i h
theorem GkD {o:Bool} {z:List AV} {zs:Array Value} (hz:GQ μ ro w o z zs.toList) (n k:Nat) (hk:k=n*z.length):
  GQ μ ro w o (Gh2 z n) ((Array.range k).map (zs[· % zs.size]!)).toList:=by
 have e:zs.size=z.length:=by simpa using hz.1
 refine ⟨by simp [Xw,hk],fun i hi=>?_⟩
 rw [Xw] at hi
 rw [Gvq z n i hi]
 have hz0:0<z.length:=by
  rcases Nat.eq_zero_or_pos z.length with e | e
  ·rw [e] at hi; omega
  ·exact e
 have hm:i % z.length<z.length:=Nat.mod_lt _ hz0
 have:=hz.2 (i % z.length) hm
 rw [G5 zs] at this
 have e2:(((Array.range k).map (zs[· % zs.size]!)).toList).getD i undef=zs.getD (i % z.length) undef:=by
  rw [G5]
  simp only [Array.getD,Array.size_map,Array.size_range,hk,hi,dif_pos,Array.getElem_map,Array.getElem_range,e,hm]
  simp [e,hm]
 rw [e2]; exact this
def Gch (P:Program) (t:TypeId) (len:Nat) (parts:List (Nat×AV)) (h:Hp):Option (AV×Hp):=
 match P.underlying t with
 | some (.slice e)=>
  match P.info? e with
  | some i=>
   match i.zero with
   | some z=>
    match !(cst z).isAny&&(Nat.ble (len*i.size) 16777216&&(!Nat.beq i.size 0&&Nat.beq (cst z).cells.length i.size)) with
    | true=>
     match Goh (fun j=>some (j*i.size,i.size)) (Gh2 (cst z).cells len) parts with
     | some c=>some (.sl h.nx 0 len len true i.size,h.cells c e false)
     | none=>none
    | false=>none
   | none=>none
  | none=>none
 | _=>none
theorem Gl8 {t:TypeId} {len:Nat} {parts:List (Nat×AV)} {ps:List (Nat×Value)} {h:Hp} {r:AV×Hp} (ha:Gch P t len parts h=some r) (hl:ps.length=parts.length)
  (hp:∀ i (h:i<parts.length) (h':i<ps.length),(ps[i]).1=(parts[i]).1∧G1 μ ro w true (parts[i]).2 (ps[i]).2) (hh:GV μ ro h w):
  KZ P (Instr.buildSlice t len ps.toArray) μ ro w h.nx r.1 r.2:=by
 unfold Gch at ha
 split at ha
 ·rename_i e hu
  split at ha
  ·rename_i i hi
   split at ha
   ·rename_i z hz
    split at ha
    ·rename_i hb
     split at ha
     ·rename_i c hf
      simp only [sJ] at ha
      subst ha
      simp only [Bool.and_eq_true,Bool.not_eq_true'] at hb
      have hlen:=nB hb.2.1
      have hs0:i.size≠0:=fun e=>by rw [e] at hb; simp at hb
      have hzl':=Nat.eq_of_beq_eq_true hb.2.2.2
      have hzr:=(QH (μ:=μ) (ro:=ro) (w:=w) (o:=true) z).cells (AV.not_any (by simpa using hb.1))
      have hze:z.cells.size=i.size:=by have:=hzr.1; simp at this; omega
      obtain ⟨ds,h1,h2,h3⟩:=Gic parts ps _ c _ hf (GkD hzr len (len*i.size) (by rw [hzl'])) hl hp
      refine KZ.cells hh (cs:=ds) (v':=.slice (some ⟨w.heap.size,0,none⟩) len len) ?_ h2 (.sl (Ky _ _) (Nat.le_refl _) (fun _=>rfl) (by have h4:=h2.1; rw [Xw,hzl'] at h3; simp at h4 ⊢; omega))
      simp only [Instr.buildSlice,Sem.run_bind,GB hu,Hy hi,Result.andThen_ok]
      rw [if_neg (by omega)]
      by_cases hz0:len*i.size=0
      ·simp only [hz0,if_true,Sem.run_pure,Result.andThen_ok]
       have hlen0:len=0:=by
        rcases Nat.mul_eq_zero.1 hz0 with h | h
        ·exact h
        ·exact absurd h hs0
       subst hlen0
       simp only [Nat.zero_mul] at h1
       have e0:(Array.range 0).map (fun x=>z.cells[x % z.cells.size]!)=#[]:=by simp
       rw [e0] at h1
       have er:Array.range 0=#[]:=rfl
       simp [h1,newRow,Result.andThen,er]
      ·simp only [hz0,if_false,Sem.run_bind,ZB hi hz,Result.andThen_ok,Sem.run_pure]
       simp [h1,newRow,Result.andThen]
     ·cases ha
    ·cases ha
   ·cases ha
  ·cases ha
 ·cases ha
/-! ### loads -/
def GqS (hn:Hu) (c:List AV) (off n:Nat):W (List AV):=
 match hn with
 | .v vs=>match Nat.beq vs.length n with | true=>(W.owe (sub c off n=vs)).bind fun _=>W.pure vs | false=>W.fail
 | _=>
  match n with
  | 1=>match c[off]? with | some v=>W.pure [v] | none=>W.fail
  | n=>match Nat.ble (off+n) c.length with | true=>W.pure (sub c off n) | false=>W.fail
theorem Gzs {c:List AV} {off:Nat} {v:AV} (h:c[off]?=some v):sub c off 1=[v]:=by
 have hlt:=(List.getElem?_eq_some_iff.1 h).1
 apply List.ext_getElem?
 intro i
 cases i with
 | zero=>simp [sub,h]
 | succ i=>simp [sub,List.getElem?_take]
theorem Gog {hn:Hu} {c:List AV} {off n:Nat}:(GqS hn c off n).sat fun vs=>sub c off n=vs∧vs.length=n:=by
 unfold GqS
 split
 ·split
  ·rename_i hb
   exact W.sat_bind W.sat_owe fun _ h=>W.sat_pure ⟨h,Nat.eq_of_beq_eq_true hb⟩
  ·exact W.sat_fail
 ·split
  ·split
   ·rename_i v hv
    exact W.sat_pure ⟨Gzs hv,rfl⟩
   ·exact W.sat_fail
  ·split
   ·rename_i hb
    exact W.sat_pure ⟨rfl,Gpu (nB hb)⟩
   ·exact W.sat_fail
def nOf (ag:Bool) (z:Nat):Nat:=match ag with | true=>z | false=>1
def Gvw (P:Program) (hn:Hu) (t:TypeId) (p:AV) (h:Hp):W AV:=
 match P.underlying t,Ug P t with
 | some d,some z=>
  match p with
  | .ptr id off=>
   match h.m.get id with
   | some (.blk k)=>(GqS hn k.c off (nOf (Ru d) z)).bind fun vs=>W.of (Gsq (Ru d) vs)
   | _=>W.fail
  | .rop c off=>(GqS hn c off (nOf (Ru d) z)).bind fun vs=>W.of (Gsq (Ru d) vs)
  | _=>W.fail
 | _,_=>W.fail
theorem Gqs {t:TypeId} {d:TypeDesc} {z:Nat} {c:List AV} {off n b p:Nat} {vs:List AV} {v:AV} {f:Nat→Value} {o:Bool}
  (hu:P.underlying t=some d) (hz:Ug P t=some z) (hn:n=nOf (Ru d) z)
  (hs:sub c off n=vs∧vs.length=n) (hv:Gsq (Ru d) vs=some v) (hc:∀ i,i<c.length→w.cell? ⟨b,p+i,none⟩=some (f i))
  (hr:∀ i,i<c.length→G1 μ ro w o (c.getD i .any) (f i)):
  ∃ v',(loadVar t ⟨b,p+off,none⟩).run P w=.ok v' w∧G1 μ ro w o v v':=by
 obtain ⟨i,hi,rfl⟩:=GaN hz
 obtain ⟨rfl,hl⟩:=hs
 have hg:∀ j,j<n→(sub c off n).getD j .any=c.getD (off+j) .any∧off+j<c.length:=fun j hj=>by
  obtain ⟨h1,h2,_⟩:=GbM (c:=c) (o:=off) (n:=n) (i:=j) (by omega)
  exact ⟨h1,h2⟩
 have hn':(if Ru d then i.size else 1)=n:=by rw [hn]; cases Ru d <;> simp [nOf]
 have hload:=GwQ (P:=P) (w:=w) hu hi (b:=b) (off:=p+off) (f:=fun j=>f (off+j)) (fun j hj=>by
  rw [hn'] at hj
  rw [Nat.add_assoc]
  exact hc _ (hg j hj).2)
 refine ⟨_,hload,?_⟩
 have hreps:GQ μ ro w o (sub c off n) ((List.range (sub c off n).length).map fun j=>f (off+j)):=GbF fun j hj=>by
  rw [hl] at hj
  rw [(hg j hj).1]
  exact hr _ (hg j hj).2
 cases ha:Ru d with
 | true=>
  simp only [ha,if_true] at hn' ⊢
  simp only [ha,Gsq,sJ] at hv
  subst hv
  have:=hreps.agg
  rw [hl] at this
  rw [hn']
  exact this
 | false=>
  simp only [ha] at hn' hv ⊢
  have hn1:n=1:=by simpa using hn'.symm
  subst hn1
  unfold Gsq at hv
  simp only at hv
  split at hv
  ·rename_i v' hc'
   simp only [sJ] at hv
   subst hv
   have:=hreps.2 0 (by rw [hl]; omega)
   rw [hc'] at this
   simpa using this
  ·cases hv
theorem Gp6 {hn:Hu} {t:TypeId} {p:AV} {x:Value} {h:Hp} (hp:G1 μ ro w true p x) (hh:GV μ ro h w):
  (Gvw P hn t p h).sat fun v=>∃ v',(Instr.loadAt t x).run P w=.ok v' w∧G1 μ ro w true v v':=by
 unfold Gvw
 split
 ·rename_i d z hu hz
  split
  ·rename_i id off
   split
   ·rename_i k hk
    refine W.sat_bind Gog fun vs hs=>W.sat_of fun v hv=>?_
    cases hp with
    | ptr hb=>
     rename_i b
     have hob:=hh.obsM id _ _ hk hb
     obtain ⟨cs,fr,h1,h0,h2,h3,h4,h5⟩:=ME.get hob
     have:=Gqs (P:=P) (w:=w) (μ:=μ) (ro:=ro) (o:=!k.pl) (b:=b.1) (p:=0) hu hz rfl hs hv (f:=fun i=>cs.getD i undef)
      (fun i hi=>by rw [Nat.zero_add]; exact Gag h1 (by omega)) h5
     obtain ⟨v',h6,h7⟩:=this
     rw [Nat.zero_add] at h6
     refine ⟨v',by simpa [Instr.loadAt,Instr.sureAddr,Result.andThen] using h6,?_⟩
     cases hpl:k.pl with
     | true=>rw [hpl] at h7; exact h7.up
     | false=>rw [hpl] at h7; exact h7
   ·exact W.sat_fail
  ·rename_i c off
   refine W.sat_bind Gog fun vs hs=>W.sat_of fun v hv=>?_
   cases hp with
   | rop f hb hc hr=>
    rename_i b p
    obtain ⟨v',h6,h7⟩:=Gqs (P:=P) (w:=w) (μ:=μ) (ro:=ro) (o:=false) (b:=b) (p:=p) hu hz rfl hs hv hc hr
    exact ⟨v',by simpa [Instr.loadAt,Instr.sureAddr,Result.andThen] using h6,h7.up⟩
  ·exact W.sat_fail
 ·exact W.sat_fail
/-! ### stores -/
theorem GkX {α:Type} (cs:Array α) (n i:Nat) (d:α) (h:i<n) (h2:i<cs.size):(cs.extract 0 n).getD i d=cs.getD i d:=by
 have h3:i<(cs.extract 0 n).size:=by simp; omega
 simp only [Array.getD,dif_pos h2,dif_pos h3,Array.getElem_extract]
 simp
def Gq1 (sy so:Bool) (h:Hp) (id off:Nat) (vs:List AV) (pl:Bool) (k:Hb):W Hp:=
  (W.req sy (off+vs.length≤k.c.length)).bind fun _=>
  (match k.fz with | 0=>W.pure () | n+1=>W.req sy (n+1≤off)).bind fun _=>
  (W.req so (vs.all AV.one=true)).bind fun _=>
  W.pure (h.set id (.blk { k with c:=Gkx k.c off vs,pl:=k.pl&&pl }))
def Gmb (sy so:Bool) (h:Hp) (id off:Nat) (vs:List AV) (pl:Bool):W Hp:=
 match h.m.get id with
 | some (.blk k)=>Gq1 sy so h id off vs pl k
 | _=>W.fail
theorem Gsn {sy so pl:Bool} {h:Hp} {id off:Nat} {b:HY} {vs:List AV} {xs:List Value} {k:Hb} {ob:Ob} (hk:h.m.get id=some ob) (hob:Ve μ ro w b (.blk k)) (hb:μ id=some b) (hvp:GQ μ ro w (!pl) vs xs) (hh:GV μ ro h w):
  (Gq1 sy so h id off vs pl k).sat fun h'=>∃ w',(storeCells ⟨b.1,off,none⟩ xs).run P w=.ok () w'∧GV μ ro h' w'∧Fr μ ro w μ w':=by
 have hv:GQ μ ro w true vs xs:=⟨hvp.1,fun i hi=>(hvp.2 i hi).any_or⟩
 unfold Gq1
 ·refine W.sat_bind W.sat_req fun _ hlen=>W.sat_bind (Q:=fun _=>k.fz≤off) ?_ fun _ hfz=>W.sat_bind W.sat_req fun _ hone=>?_
  ·split
   ·rename_i h0; exact W.sat_pure (by omega)
   ·rename_i n hn; exact W.sat_mono W.sat_req fun _ h=>by omega
  ·refine W.sat_pure ?_
   obtain ⟨cs,fr,h1,h0,h2,h3,h4,h5⟩:=ME.get hob
   have hxl:xs.length=vs.length:=hv.1
   obtain ⟨w',hr,hw⟩:=Gft (P:=P) xs 0 w b.1 off k.e fr cs h1 (by omega) (fun j hj1 hj2 hfr=>by
    have:=h4 j hfr.1 hfr.2
    omega) (fun v hvm=>by
     obtain ⟨i,hi,rfl⟩:=List.getElem_of_mem hvm
     have hi':i<vs.length:=by omega
     have:=hv.2 i hi'
     rw [List.all_eq_true] at hone
     have h1:=hone (vs.getD i .any) (by rw [List.getD_eq_getElem?_getD,List.getElem?_eq_getElem hi']; exact List.getElem_mem hi')
     have h2:=this.one h1
     rwa [List.getD_eq_getElem?_getD,List.getElem?_eq_getElem hi] at h2)
   have hro:∀ j,ro j→w'.heap[j]?=w.heap[j]?:=fun j hj=>hw.other j (fun e=>hh.own id _ b hk hb (e ▸ hj))
   refine ⟨w',hr,hh.set hk hb (Nat.le_of_eq hw.size.symm) (fun j hj _=>hw.other j hj) ?_,Fr.write hb hw.os hw.tape hw.output hw.size (hh.own id _ b hk hb) hw.other⟩
   have fin:ME μ ro w' b { k with c:=Gkx k.c off vs,pl:=k.pl&&pl }:=?_
   ·exact fin
   refine ⟨⟨_,fr,hw.at_,by rw [Mo]; exact h0,by simpa [Mo,Zd] using h2,fun he=>by simpa [Mo,Zd] using h3 he,fun i h1 h2=>by rw [Mo]; exact h4 i h1 h2,?_⟩⟩
   have hw5:∀ (o:Bool),(∀ i,i<k.c.length→G1 μ ro w o (k.c.getD i .any) (cs.getD i undef))→GQ μ ro w o vs xs→
     ∀ i,i<(Gkx k.c off vs).length→G1 μ ro w' o ((Gkx k.c off vs).getD i .any) ((R5 cs (off+0) xs).getD i undef):=fun o hc hvo i hi=>by
    have hcs:GQ μ ro w o k.c (cs.extract 0 k.c.length).toList:=by
     refine ⟨by simp; omega,fun i hi=>?_⟩
     have:=hc i hi
     have hi2:i<cs.size:=by omega
     have e:(cs.extract 0 k.c.length).toList.getD i undef=cs.getD i undef:=(G5 (cs.extract 0 k.c.length) i undef).trans (GkX _ _ _ _ hi hi2)
     rw [e]; exact this
    have h6:=(GmP vs k.c _ xs off hcs hvo).2 i hi
    rw [G5 (R5 (cs.extract 0 k.c.length) off xs),GaI _ _ _ _ (by simp; omega)] at h6
    rw [Zd] at hi
    rw [Nat.add_zero,GaI _ _ _ _ (by omega)]
    have e:(cs.extract 0 k.c.length).getD i undef=cs.getD i undef:=GkX _ _ _ _ hi (by omega)
    rw [e] at h6
    exact h6.mono (fun _ _ h=>h) (fun _ h=>h) hro
   intro i hi
   cases hpk:k.pl with
   | false=>rw [hpk] at h5; exact hw5 true h5 hv i hi
   | true=>
    rw [hpk] at h5
    cases hpv:pl with
    | true=>rw [hpv] at hvp; exact hw5 false h5 hvp i hi
    | false=>exact hw5 true (fun i hi=>(h5 i hi).up) hv i hi
theorem Ge8 {sy so pl:Bool} {h:Hp} {id off:Nat} {b:HY} {vs:List AV} {xs:List Value} (hb:μ id=some b) (hvp:GQ μ ro w (!pl) vs xs) (hh:GV μ ro h w):
  (Gmb sy so h id off vs pl).sat fun h'=>∃ w',(storeCells ⟨b.1,off,none⟩ xs).run P w=.ok () w'∧GV μ ro h' w'∧Fr μ ro w μ w':=by
 unfold Gmb
 split
 ·rename_i k hk
  exact Gsn hk (hh.obsM id _ _ hk hb) hb hvp hh
 ·exact W.sat_fail
def GtS (P:Program) (hn:Hu) (t:TypeId) (p v:AV) (h:Hp):W Hp:=
 match p,Ug P t with
 | .ptr id off,some z=>match !v.isAny&&Nat.beq v.cells.length z with | true=>Gmb hn.sy false h id off v.cells (v.cells.all AV.pl) | false=>W.fail
 | _,_=>W.fail
theorem GtT {hn:Hu} {t:TypeId} {p v:AV} {x y:Value} {h:Hp} (hp:G1 μ ro w true p x) (hv:G1 μ ro w true v y) (hh:GV μ ro h w):
  (GtS P hn t p v h).sat fun h'=>∃ w',(Instr.storeAt t x y).run P w=.ok () w'∧GV μ ro h' w'∧Fr μ ro w μ w':=by
 unfold GtS
 split
 ·rename_i id off z hz
  split
  ·rename_i hb
   simp only [Bool.and_eq_true] at hb
   cases hp with
   | ptr hid=>
    obtain ⟨i,hi,rfl⟩:=GaN hz
    have hcells:=hv.cells (AV.not_any hb.1)
    have hl:=Nat.eq_of_beq_eq_true hb.2
    refine W.sat_mono (Ge8 (P:=P) hid hcells.plx hh) fun h' ⟨w',h1,h2,h3⟩=>⟨w',?_,h2,h3⟩
    have e:y.cells.size=i.size:=by have:=hcells.1; simp at this; omega
    simp only [Instr.storeAt,Instr.sureAddr,storeVar,Sem.run_bind,Sem.run_pure,Result.andThen_ok,Hy hi]
    simp [e,h1,Result.andThen]
  ·exact W.sat_fail
 ·exact W.sat_fail
end
noncomputable section
open Go.RowKit
variable {P:Program} {μ μ':Nat→Option HY} {ro ro':Nat→Prop} {w w':World}
def ad (a b:Nat):Nat:=bif Nat.beq a 0 then b else a+b
def mu (j z:Nat):Nat:=bif Nat.beq z 1 then j else j*z
theorem Goo (a b:Nat):ad a b=a+b:=by
 unfold ad
 cases h:Nat.beq a 0
 ·rfl
 ·have:=Nat.eq_of_beq_eq_true h; subst this; simp
theorem Ua (j z:Nat):mu j z=j*z:=by
 unfold mu
 cases h:Nat.beq z 1
 ·rfl
 ·have:=Nat.eq_of_beq_eq_true h; subst this; simp
def GaR (P:Program) (s:TypeId) (x:AV) (f:Nat):Option AV:=
 match P.underlying s with
 | some (.struct fs)=>
  match fs[f]? with
  | some g=>
   match Ug P g.type with
   | some (n+1)=>
    match x with
    | .ptr id off=>some (.ptr id (off+g.offset))
    | .rop c off=>some (.rop c (off+g.offset))
    | _=>none
   | _=>none
  | none=>none
 | _=>none
theorem Ggg {s:TypeId} {x v:AV} {a:Value} {f:Nat} (h:GaR P s x f=some v) (hx:G1 μ ro w true x a):
  ∃ v',(∀ w,(Instr.fieldAt s a f).run P w=.ok v' w)∧G1 μ ro w true v v':=by
 unfold GaR at h
 split at h
 ·rename_i fs hu
  split at h
  ·rename_i g hg
   split at h
   ·rename_i n hn
    obtain ⟨i,hi,hsz⟩:=GaN hn
    split at h
    ·rename_i id off
     simp only [sJ] at h
     subst h
     cases hx with
     | ptr hb=>
      rename_i b
      refine ⟨.pointer (some ⟨b.1,off+g.offset,none⟩),fun w=>?_,.ptr hb⟩
      simp [Instr.fieldAt,Instr.sureAddr,GB hu,hg,fieldPlace,Hy hi,hsz,Ko,Result.andThen]
    ·rename_i c off
     simp only [sJ] at h
     subst h
     cases hx with
     | rop vs hb hc hr=>
      rename_i b p
      refine ⟨.pointer (some ⟨b,p+off+g.offset,none⟩),fun w=>?_,?_⟩
      ·simp [Instr.fieldAt,Instr.sureAddr,GB hu,hg,fieldPlace,Hy hi,hsz,Ko,Result.andThen]
      ·rw [Nat.add_assoc]; exact .rop vs hb hc hr
    ·cases h
   ·cases h
  ·cases h
 ·cases h
def neE (hn:Hu) (c:List AV):W Unit:=
 match hn with
 | .i _=>W.owe (c≠[])
 | _=>match c with | []=>W.fail | _=>W.pure ()
theorem Gy9 {hn:Hu} {c:List AV}:(neE hn c).sat fun _=>c≠[]:=by
 unfold neE
 split
 ·exact W.sat_owe
 ·split
  ·exact W.sat_fail
  ·rename_i h; exact W.sat_pure h
def GjW (P:Program) (hn:Hu) (t:TypeId) (x i:AV):W AV:=
 match P.underlying t,x,i with
 | some (.slice e),.sl id off len cap ex _,.int _ n=>
  (W.of (Ug P e)).bind fun z=>(GqV hn n len).bind fun j=>W.pure (.ptr id (ad off (mu j z)))
 | some (.slice e),.vec id len _,.int _ n=>
  (W.of (Ug P e)).bind fun z=>(GqV hn n len).bind fun j=>W.pure (.ptr id (mu j z))
 | some (.slice e),.lst c len,.int _ n=>
  (W.of (Ug P e)).bind fun z=>(GqV hn n len).bind fun j=>(neE hn c).bind fun _=>W.pure (.rop c (mu j z))
 | some (.array len e),.ptr id off,.int _ n=>
  (W.of (Ug P e)).bind fun z=>(GqV hn n len).bind fun j=>W.pure (.ptr id (ad off (mu j z)))
 | some (.array len e),.rop c off,.int _ n=>
  (W.of (Ug P e)).bind fun z=>(GqV hn n len).bind fun j=>W.pure (.rop c (ad off (mu j z)))
 | _,_,_=>W.fail
theorem Goi {hn:Hu} {t:TypeId} {x i:AV} {a b:Value} (hx:G1 μ ro w true x a) (hi:G1 μ ro w true i b):
  (GjW P hn t x i).sat fun v=>∃ v',(∀ w,(Instr.indexAt t a b).run P w=.ok v' w)∧G1 μ ro w true v v':=by
 have hsz:∀ e,(W.of (Ug P e)).sat fun z=>∃ i,P.info? e=some i∧i.size=z:=fun e=>W.sat_of fun z hz=>GaN hz
 have hin:∀ {n:Int} {len j:Nat},n=(j:Int)∧j<len→(0:Int)≤n∧n<len∧n.toNat=j:=fun ⟨h1,h2⟩=>by omega
 unfold GjW
 split
 ·rename_i e id off len cap ex z' k n hu
  cases hi
  refine W.sat_bind (hsz e) fun z ⟨i,hi,hz⟩=>W.sat_bind GaS fun j hj=>W.sat_pure ?_
  obtain ⟨h1,h2,h3⟩:=hin hj
  subst hz
  cases hx with
  | sl hb hc1 hc2 hc3=>
   rename_i cap' b
   refine ⟨.pointer (some ⟨b.1,off+j*i.size,none⟩),fun w=>?_,?_⟩
   ·simp only [Instr.indexAt,asIntOf,Sem.run_bind,Sem.run_pure,Result.andThen_ok,GB hu]
    simp only [h1,h2,and_self,if_true,Sem.run_bind,Hy hi,Result.andThen_ok,h3,Ko,Sem.run_pure]
   ·rw [Goo,Ua]; exact .ptr hb
 ·rename_i e id len z' k n hu
  cases hi
  refine W.sat_bind (hsz e) fun z ⟨i,hi,hz⟩=>W.sat_bind GaS fun j hj=>W.sat_pure ?_
  obtain ⟨h1,h2,h3⟩:=hin hj
  subst hz
  cases hx with
  | vecn=>have:=hj.2; omega
  | vec hb hc1 hc3=>
   rename_i cap' b
   refine ⟨.pointer (some ⟨b.1,j*i.size,none⟩),fun w=>?_,?_⟩
   ·simp only [Instr.indexAt,asIntOf,Sem.run_bind,Sem.run_pure,Result.andThen_ok,GB hu]
    simp only [h1,h2,and_self,if_true,Sem.run_bind,Hy hi,Result.andThen_ok,h3,Ko,Sem.run_pure,Nat.zero_add]
   ·rw [Ua]; exact .ptr hb
 ·rename_i e c len k n hu
  cases hi
  refine W.sat_bind (hsz e) fun z ⟨i,hi,hz⟩=>W.sat_bind GaS fun j hj=>W.sat_bind Gy9 fun _ hne=>?_
  obtain ⟨h1,h2,h3⟩:=hin hj
  subst hz
  ·refine W.sat_pure ?_
   cases hx with
   | lstn=>exact absurd rfl hne
   | lst vs hb hc hr hn=>
    rename_i cap' a
    obtain ⟨blk,off,spot⟩:=a
    obtain ⟨hro,hsp⟩:=hb hne
    simp only at hro hsp
    subst hsp
    refine ⟨.pointer (some ⟨blk,off+j*i.size,none⟩),fun w=>?_,?_⟩
    ·simp only [Instr.indexAt,asIntOf,Sem.run_bind,Sem.run_pure,Result.andThen_ok,GB hu]
     simp only [h1,h2,and_self,if_true,Sem.run_bind,Hy hi,Result.andThen_ok,h3,Ko,Sem.run_pure]
    ·rw [Ua]; exact .rop vs hro hc hr
 ·rename_i len e id off k n hu
  cases hi
  refine W.sat_bind (hsz e) fun z ⟨i,hi,hz⟩=>W.sat_bind GaS fun j hj=>W.sat_pure ?_
  obtain ⟨h1,h2,h3⟩:=hin hj
  subst hz
  cases hx with
  | ptr hb=>
   rename_i b
   refine ⟨.pointer (some ⟨b.1,off+j*i.size,none⟩),fun w=>?_,?_⟩
   ·simp only [Instr.indexAt,asIntOf,Sem.run_bind,Sem.run_pure,Result.andThen_ok,GB hu,Instr.sureAddr]
    simp only [h1,h2,and_self,if_true,Sem.run_bind,Hy hi,Result.andThen_ok,h3,Ko,Sem.run_pure]
   ·rw [Goo,Ua]; exact .ptr hb
 ·rename_i len e c off k n hu
  cases hi
  refine W.sat_bind (hsz e) fun z ⟨i,hi,hz⟩=>W.sat_bind GaS fun j hj=>W.sat_pure ?_
  obtain ⟨h1,h2,h3⟩:=hin hj
  subst hz
  cases hx with
  | rop vs hb hc hr=>
   rename_i b p
   refine ⟨.pointer (some ⟨b,p+off+j*i.size,none⟩),fun w=>?_,?_⟩
   ·simp only [Instr.indexAt,asIntOf,Sem.run_bind,Sem.run_pure,Result.andThen_ok,GB hu,Instr.sureAddr]
    simp only [h1,h2,and_self,if_true,Sem.run_bind,Hy hi,Result.andThen_ok,h3,Ko,Sem.run_pure]
   ·rw [Goo,Ua,Nat.add_assoc]; exact .rop vs hb hc hr
 ·exact W.sat_fail
/-! ### slice expressions -/
def selN (sel:Bool) (l h:Nat):Nat:=match sel with | true=>l | false=>h
def GqO (hn:Hu) (sel:Bool) (x:Option AV) (dflt:Nat):W Nat:=
 match x with
 | none=>W.pure dflt
 | some (.int _ z)=>
  match hn with
  | .s l h=>(W.owe (z=(selN sel l h:Int))).bind fun _=>W.pure (selN sel l h)
  | _=>match z with | .ofNat j=>W.pure j | _=>W.fail
 | _=>W.fail
theorem Goe {hn:Hu} {sel:Bool} {x:Option AV} {d:Nat}:(GqO hn sel x d).sat fun j=>(x=none∧j=d)∨∃ k,x=some (.int k (j:Int)):=by
 unfold GqO
 split
 ·exact W.sat_pure (.inl ⟨rfl,rfl⟩)
 ·split
  ·exact W.sat_bind W.sat_owe fun _ h=>W.sat_pure (.inr ⟨_,by rw [h]⟩)
  ·split
   ·exact W.sat_pure (.inr ⟨_,rfl⟩)
   ·exact W.sat_fail
 ·exact W.sat_fail
def Gib (hn:Hu) (lo hi:Option AV) (len cap:Nat):W (Nat×Nat):=
 (GqO hn false hi len).bind fun h=>(GqO hn true lo 0).bind fun l=>(W.req hn.sy (l≤h∧h≤cap)).bind fun _=>W.pure (l,h)
theorem YN {hn:Hu} {lo hi:Option AV} {lo' hi':Option Value} {len cap:Nat} (hl:∀ v,lo=some v→∃ x,lo'=some x∧G1 μ ro w true v x) (hl0:lo=none→lo'=none)
  (hh:∀ v,hi=some v→∃ x,hi'=some x∧G1 μ ro w true v x) (hh0:hi=none→hi'=none):
  (Gib hn lo hi len cap).sat fun p=>p.1≤p.2∧p.2≤cap∧(hi=none→p.2=len)∧(lo=none→p.1=0)∧
   ∀ (b:Bool) (cap':Nat) w,cap≤cap'→(Instr.sliceBounds b len cap' lo' hi' none).run P w=.ok (p.1,p.2,cap') w:=by
 refine W.sat_bind Goe fun h hh'=>W.sat_bind Goe fun l hl'=>W.sat_bind W.sat_req fun _ hle=>W.sat_pure ⟨hle.1,hle.2,?_,?_,?_⟩
 ·intro e; rcases hh' with h | ⟨k,hk⟩
  ·exact h.2
  ·rw [e] at hk; cases hk
 ·intro e; rcases hl' with h | ⟨k,hk⟩
  ·exact h.2
  ·rw [e] at hk; cases hk
 ·intro b cap' w hc
  have hb:∀ (k:IntKind) (j y:Nat) (c:BoundsCode) w,j≤y→(Instr.sliceBound (.int k (j:Int)) y c).run P w=.ok j w:=fun k j y c w hjy=>by
   have:(0:Int)≤j∧(j:Int)≤y:=by omega
   simp [Instr.sliceBound,asIntOf,this,Result.andThen]
  have e2:∀ w,(match hi' with | some v=>Instr.sliceBound v cap' (if b then .sliceAcap else .sliceAlen) | none=>pure len:Sem Nat).run P w=.ok h w:=fun w=>by
   rcases hh' with ⟨h1,h2⟩ | ⟨k,hk⟩
   ·rw [hh0 h1]; subst h2; rfl
   ·obtain ⟨x,hx,hr⟩:=hh _ hk
    rw [hx]
    cases hr
    exact hb _ _ _ _ _ (by omega)
  have e3:∀ w,(match lo' with | some v=>Instr.sliceBound v h .sliceB | none=>pure 0:Sem Nat).run P w=.ok l w:=fun w=>by
   rcases hl' with ⟨h1,h2⟩ | ⟨k,hk⟩
   ·rw [hl0 h1]; subst h2; rfl
   ·obtain ⟨x,hx,hr⟩:=hl _ hk
    rw [hx]
    cases hr
    exact hb _ _ _ _ _ hle.1
  unfold Instr.sliceBounds
  have e2':=e2 w
  have e3':=e3 w
  cases hi' <;> cases lo' <;> simp [Result.andThen] at e2' e3' ⊢ <;> simp_all [Result.andThen]
def Gp9 (s:List UInt8) (lo hi:Option AV) (l h:Nat):List UInt8:=
 match lo,hi with
 | none,none=>s
 | none,some _=>s.take h
 | some _,none=>s.drop l
 | some _,some _=>(s.take h).drop l
end
noncomputable section
open Go.RowKit
variable {P:Program} {μ μ':Nat→Option HY} {ro ro':Nat→Prop} {w w':World}
def GyK (hn:Hu) (lo:Option AV) (ex:Bool) (off l cap z:Nat):W Nat:=
 match lo with
 | none=>W.pure off
 | some _=>
  match hn with
  | .s _ _=>(W.req true (l<cap)).bind fun _=>W.pure (ad off (mu l z))
  | _=>match l with
   | 0=>W.pure off
   | l+1=>match Nat.blt (l+1) cap with | true=>W.pure (ad off (mu (l+1) z)) | false=>match ex with | true=>W.pure off | false=>W.fail
theorem Gsk {hn:Hu} {lo:Option AV} {ex:Bool} {off l cap z:Nat} (h0:lo=none→l=0) (hle:l≤cap):
  (GyK hn lo ex off l cap z).sat fun o=>o≤off+l*z∧∀ cap',cap≤cap'→(ex=true→cap'=cap)→∀ b:Nat,(if cap'=l then (⟨b,off,none⟩:Addr) else (⟨b,off,none⟩:Addr).add (l*z))=⟨b,o,none⟩:=by
 have key:∀ (off l:Nat) cap',l<cap→cap≤cap'→∀ b:Nat,(if cap'=l then (⟨b,off,none⟩:Addr) else (⟨b,off,none⟩:Addr).add (l*z))=⟨b,ad off (mu l z),none⟩:=fun off l cap' h1 h2 b=>by
  rw [if_neg (by omega),Ko,Goo,Ua]
 have zero:∀ (off:Nat) cap' (b:Nat),(if cap'=0 then (⟨b,off,none⟩:Addr) else (⟨b,off,none⟩:Addr).add (0*z))=⟨b,off,none⟩:=fun off cap' b=>by
  rw [Ko]; split <;> simp
 unfold GyK
 split
 ·refine W.sat_pure ⟨by omega,fun cap' _ _ b=>?_⟩
  rw [h0 rfl]; exact zero _ _ _
 ·split
  ·exact W.sat_bind W.sat_req fun _ h=>W.sat_pure ⟨by rw [Goo,Ua]; omega,fun cap' hc _ b=>key _ _ _ h hc b⟩
  ·split
   ·exact W.sat_pure ⟨by omega,fun cap' _ _ b=>zero _ _ _⟩
   ·rename_i l
    split
    ·rename_i hb
     have:=nB hb
     exact W.sat_pure ⟨by rw [Goo,Ua]; exact Nat.le_refl _,fun cap' hc _ b=>key _ _ _ (by omega) hc b⟩
    ·rename_i hb
     split
     ·refine W.sat_pure ⟨by omega,fun cap' hc he b=>?_⟩
      have h2:¬ l+1<cap:=fun h=>by
       have:Nat.blt (l+1) cap=true:=Nat.ble_eq_true_of_le h
       rw [this] at hb; cases hb
      rw [he rfl,if_pos (by simp at hle; omega)]
     ·exact W.sat_fail
def Ggh (sy:Bool) (lo hi:Option AV) (c:List AV) (n l h z:Nat):W (List AV):=
 match lo,hi with
 | none,none=>W.pure c
 | none,some _=>W.pure (c.take (mu h z))
 | some _,none=>(W.req sy (c.length≤mu n z)).bind fun _=>W.pure (c.drop (mu l z))
 | some _,some _=>W.pure ((c.take (mu h z)).drop (mu l z))
theorem GqY {sy:Bool} {lo hi:Option AV} {c:List AV} {n l h z:Nat} {a:Addr} {cap':Nat} {o:Bool} (hx:G1 μ ro w o (.lst c n) (.slice (some a) n cap')) (hc:n≤cap')
  (hl:l≤h) (hh:h≤n) (hi0:hi=none→h=n) (hl0:lo=none→l=0):
  (Ggh sy lo hi c n l h z).sat fun d=>G1 μ ro w o (.lst d (h - l)) (.slice (if cap'=l then some a else (some a).map (·.add (l*z))) (h - l) (cap' - l)):=by
 have hcl:h - l≤cap' - l:=by omega
 cases hx with
 | lst vs hb hcell hr hnc=>
  have fin:∀ d:List AV,d=(c.take d.length |>.drop 0)∨True→(∀ i,i<d.length→l*z+i<c.length∧d.getD i .any=c.getD (l*z+i) .any)→(cap'=l→l*z=0∨d=[])→
    G1 μ ro w o (.lst d (h - l)) (.slice (if cap'=l then some a else (some a).map (·.add (l*z))) (h - l) (cap' - l)):=by
   intro d _ hd hcap
   have hne:d≠[]→c≠[]:=fun hdn hcn=>by
    subst hcn
    cases d with
    | nil=>exact hdn rfl
    | cons x d=>have:=(hd 0 (by simp)).1; simp at this
   by_cases hd0:d=[]
   ·subst hd0
    by_cases e:cap'=l
    ·rw [if_pos e]
     exact .lst vs (fun h=>absurd rfl h) (fun i hi=>by simp at hi) (fun i hi=>by simp at hi) hcl
    ·rw [if_neg e]
     exact .lst vs (fun h=>absurd rfl h) (fun i hi=>by simp at hi) (fun i hi=>by simp at hi) hcl
   ·obtain ⟨hro,hsp⟩:=hb (hne hd0)
    obtain ⟨blk,off,spot⟩:=a
    simp only at hro hsp hcell
    subst hsp
    have e:(if cap'=l then some (⟨blk,off,none⟩:Addr) else (some (⟨blk,off,none⟩:Addr)).map (·.add (l*z)))=some ⟨blk,off+l*z,none⟩:=by
     by_cases e:cap'=l
     ·rw [if_pos e]
      rcases hcap e with h | h
      ·rw [h]; rfl
      ·exact absurd h hd0
     ·rw [if_neg e]; simp [Ko]
    rw [e]
    refine .lst (fun i=>vs (l*z+i)) (fun _=>⟨hro,rfl⟩) (fun i hi=>?_) (fun i hi=>?_) hcl
    ·have:=hcell _ (hd i hi).1
     simpa [Nat.add_assoc] using this
    ·rw [(hd i hi).2]; exact hr _ (hd i hi).1
  have VR:∀ (c:List AV) (m i:Nat),(c.drop m).getD i .any=c.getD (m+i) .any:=fun c m i=>by simp [List.getD,List.getElem?_drop]
  have take_get:∀ (c:List AV) (m i:Nat),i<m→(c.take m).getD i .any=c.getD i .any:=fun c m i hi=>by simp [List.getD,List.getElem?_take,hi]
  unfold Ggh
  split
  ·refine W.sat_pure ?_
   obtain rfl:=hl0 rfl
   refine fin c (.inr trivial) (fun i hi=>⟨by omega,by rw [Nat.zero_mul,Nat.zero_add]⟩) (fun _=>.inl (by simp))
  ·refine W.sat_pure ?_
   obtain rfl:=hl0 rfl
   refine fin _ (.inr trivial) (fun i hi=>?_) (fun _=>.inl (by simp))
   simp only [List.length_take] at hi
   refine ⟨by omega,?_⟩
   rw [take_get _ _ _ (by omega),Nat.zero_mul,Nat.zero_add]
  ·refine W.sat_bind W.sat_req fun _ hlen=>W.sat_pure ?_
   obtain rfl:=hi0 rfl
   rw [Ua] at hlen ⊢
   refine fin _ (.inr trivial) (fun i hi=>?_) (fun e=>.inr ?_)
   ·simp only [List.length_drop] at hi
    exact ⟨by omega,VR _ _ _⟩
   ·have e2:l=h:=by omega
    subst e2
    exact List.drop_eq_nil_of_le hlen
  ·refine W.sat_pure ?_
   rw [Ua,Ua]
   refine fin _ (.inr trivial) (fun i hi=>?_) (fun e=>.inr ?_)
   ·simp only [List.length_drop,List.length_take] at hi
    refine ⟨by omega,?_⟩
    rw [VR,take_get _ _ _ (by omega)]
   ·have e2:l=h:=by omega
    subst e2
    exact List.drop_eq_nil_of_le (by simp; omega)
def mi (lo:Option AV) (a b:Nat):Nat:=match lo with | none=>a | some _=>a - b
theorem Gqy {lo:Option AV} {a b:Nat} (h:lo=none→b=0):mi lo a b=a - b:=by
 cases lo with
 | none=>simp [mi,h rfl]
 | some _=>rfl
def GzJ (hn:Hu) (lo:Option AV) (ex:Bool) (a b cap:Nat):Bool:=
 match hn,lo with
 | .s _ _,_=>false
 | _,none=>false
 | _,some _=>!ex&&(Nat.beq a cap&&(Nat.beq b a&&!Nat.beq a 0))
def GtQ (P:Program) (hn:Hu) (t:TypeId) (x:AV) (lo hi:Option AV) (h:Hp):W AV:=
 match P.underlying t,x with
 | some .string,.str s=>(Gib hn lo hi s.length s.length).bind fun p=>W.pure (.str (Gp9 s lo hi p.1 p.2))
 | some (.slice e),.sl id off len cap ex z'=>
  (W.of (Ug P e)).bind fun z=>(W.req false (z'=z)).bind fun _=>(Gib hn lo hi len cap).bind fun p=>
  match GzJ hn lo ex p.1 p.2 cap with
  | true=>W.pure (.lst [] 0)
  | false=>(GyK hn lo ex off p.1 cap z).bind fun o=>
  W.pure (.sl id o (mi lo p.2 p.1) (mi lo cap p.1) ex z)
 | some (.slice e),.lst c n=>
  (W.of (Ug P e)).bind fun z=>(Gib hn lo hi n n).bind fun p=>(Ggh hn.sy lo hi c n p.1 p.2 z).bind fun d=>
  W.pure (.lst d (mi lo p.2 p.1))
 | some (.slice e),.nils=>(W.of (Ug P e)).bind fun z=>(Gib hn lo hi 0 0).bind fun p=>W.pure .nils
 | some (.array n e),.ptr id off=>
  (W.of (Ug P e)).bind fun z=>(W.of (match h.m.get id with | some (.blk k)=>some k | _=>none)).bind fun k=>(W.req false (off+n*z≤k.c.length)).bind fun _=>(Gib hn lo hi n n).bind fun p=>(GyK hn lo true off p.1 n z).bind fun o=>
  W.pure (.sl id o (mi lo p.2 p.1) (mi lo n p.1) true z)
 | _,_=>W.fail
theorem GtR {hn:Hu} {t:TypeId} {x:AV} {a:Value} {lo hi:Option AV} {lo' hi':Option Value} {h:Hp} (hp:GV μ ro h w) (hx:G1 μ ro w true x a)
  (hl:∀ v,lo=some v→∃ x,lo'=some x∧G1 μ ro w true v x) (hl0:lo=none→lo'=none)
  (hh:∀ v,hi=some v→∃ x,hi'=some x∧G1 μ ro w true v x) (hh0:hi=none→hi'=none):
  (GtQ P hn t x lo hi h).sat fun v=>∃ v',(∀ w,(Instr.sliceAt t a lo' hi' none).run P w=.ok v' w)∧G1 μ ro w true v v':=by
 have hsz:∀ e,(W.of (Ug P e)).sat fun z=>∃ i,P.info? e=some i∧i.size=z:=fun e=>W.sat_of fun z hz=>GaN hz
 unfold GtQ
 split
 ·rename_i s hu
  cases hx with
  | str hs=>
   rename_i b
   refine W.sat_bind (YN (P:=P) hl hl0 hh hh0) fun p ⟨h1,h2,h3,h4,h5⟩=>W.sat_pure ⟨.string (b.extract p.1 p.2),fun w=>?_,.str ?_⟩
   ·have:=h5 false s.length w (Nat.le_refl _)
    have e:s.length=b.size:=by rw [← hs,RD]
    rw [e] at this
    simp [Instr.sliceAt,Instr.slice,GB hu,this,Result.andThen]
   ·subst hs
    have e:(b.extract p.1 p.2).data.toList=(b.data.toList.take p.2).drop p.1:=by
     simp [ByteArray.data_extract,List.extract_eq_take_drop,List.drop_take]
    rw [e]
    unfold Gp9
    cases lo <;> cases hi <;> simp only
    ·rw [h4 rfl,h3 rfl,List.drop_zero,List.take_length]
    ·rw [h4 rfl,List.drop_zero]
    ·rw [h3 rfl,List.take_length]
 ·rename_i e id off len cap ex z' hu
  refine W.sat_bind (hsz e) fun z ⟨i,hi,hz⟩=>W.sat_bind W.sat_req fun _ hzz=>W.sat_bind (YN (P:=P) hl hl0 hh hh0) fun p ⟨h1,h2,h3,h4,h5⟩=>?_
  split
  ·rename_i hend
   have hba:p.2=p.1:=by
    unfold GzJ at hend
    split at hend
    ·cases hend
    ·cases hend
    ·simp only [Bool.and_eq_true] at hend; exact Nat.eq_of_beq_eq_true hend.2.2.1
   subst hz
   cases hx with
   | sl hb hc1 hc2 hc3=>
    rename_i cap' b
    have e3:p.2 - p.1=0:=by omega
    obtain ⟨q,hq⟩:∃ q:Addr,(if cap'=p.1 then some (⟨b.1,off,none⟩:Addr) else (some (⟨b.1,off,none⟩:Addr)).map (·.add (p.1*i.size)))=some q:=by
     split
     ·exact ⟨_,rfl⟩
     ·exact ⟨_,rfl⟩
    refine W.sat_pure ⟨.slice (some q) 0 (cap' - p.1),fun w=>?_,.lst (fun _=>undef) (fun h=>absurd rfl h) (fun j hj=>by simp at hj) (fun j hj=>by simp at hj) (Nat.zero_le _)⟩
    simp only [Instr.sliceAt,Sem.run_bind,GB hu,Result.andThen_ok,Instr.slice,h5 true cap' w hc1,Hy hi,Sem.run_pure]
    rw [hq,e3]
  refine W.sat_bind (Gsk h4 (by omega)) fun o ⟨hoo,ho⟩=>W.sat_pure ?_
  subst hzz
  subst hz
  rw [Gqy h4,Gqy h4]
  cases hx with
  | sl hb hc1 hc2 hc3=>
   rename_i cap' b
   have hmul:(cap' - p.1)*i.size+p.1*i.size=cap'*i.size:=by rw [← Nat.add_mul,Nat.sub_add_cancel (by omega)]
   refine ⟨.slice (some ⟨b.1,o,none⟩) (p.2 - p.1) (cap' - p.1),fun w=>?_,.sl hb (by omega) (fun h=>by have:=hc2 h; omega) (by omega)⟩
   have:=ho cap' hc1 hc2 b.1
   have e2:(if cap'=p.1 then some (⟨b.1,off,none⟩:Addr) else (some (⟨b.1,off,none⟩:Addr)).map (·.add (p.1*i.size)))=some ⟨b.1,o,none⟩:=by
    rw [← this]; split <;> rfl
   simp only [Instr.sliceAt,Sem.run_bind,GB hu,Result.andThen_ok,Instr.slice,h5 true cap' w hc1,Hy hi,Sem.run_pure]
   rw [e2]
 ·rename_i e c n hu
  refine W.sat_bind (hsz e) fun z ⟨i,hi,hz⟩=>W.sat_bind (YN (P:=P) hl hl0 hh hh0) fun p ⟨h1,h2,h3,h4,h5⟩=>?_
  subst hz
  have hx':=hx
  cases hx with
  | lstn=>
   have hd:∀ hx:Option AV,(Ggh hn.sy lo hx [] 0 p.1 p.2 i.size).sat fun d=>d=[]:=fun hx=>by
    unfold Ggh
    split
    ·exact W.sat_pure rfl
    ·exact W.sat_pure (by simp)
    ·exact W.sat_bind (Q:=fun _=>True) (fun _ _ _ _=>trivial) fun _ _=>W.sat_pure (by simp)
    ·exact W.sat_pure (by simp)
   refine W.sat_bind (hd _) fun d hd=>W.sat_pure ?_
   subst hd
   have e1:p.2=0:=by omega
   have e2:p.1=0:=by omega
   rw [Gqy h4,e1,e2]
   refine ⟨.slice none 0 0,fun w=>?_,.lstn⟩
   have:=h5 true 0 w (Nat.le_refl _)
   rw [e1,e2] at this
   simp [Instr.sliceAt,GB hu,Instr.slice,this,Hy hi,Result.andThen]
  | lst vs hb hcell hr hnc=>
   rename_i cap' a
   refine W.sat_bind (GqY hx' hnc h1 h2 h3 h4) fun d hd=>W.sat_pure ?_
   rw [Gqy h4]
   refine ⟨_,fun w=>?_,hd⟩
   simp only [Instr.sliceAt,Sem.run_bind,GB hu,Result.andThen_ok,Instr.slice,h5 true cap' w hnc,Hy hi,Sem.run_pure]
 ·rename_i e hu
  refine W.sat_bind (hsz e) fun z ⟨i,hi,hz⟩=>W.sat_bind (YN (P:=P) hl hl0 hh hh0) fun p ⟨h1,h2,h3,h4,h5⟩=>W.sat_pure ?_
  subst hz
  cases hx
  refine ⟨.slice none 0 0,fun w=>?_,.nils⟩
  have e1:p.2=0:=by omega
  have e2:p.1=0:=by omega
  have:=h5 true 0 w (Nat.le_refl _)
  rw [e1,e2] at this
  simp [Instr.sliceAt,GB hu,Instr.slice,this,Hy hi,Result.andThen]
 ·rename_i n e id off hu
  refine W.sat_bind (hsz e) fun z ⟨i,hi,hz⟩=>W.sat_bind (W.sat_of (Q:=fun k=>h.m.get id=some (.blk k)) fun k hk=>by revert hk; split <;> simp_all) fun k hk=>W.sat_bind W.sat_req fun _ hlen=>
   W.sat_bind (YN (P:=P) hl hl0 hh hh0) fun p ⟨h1,h2,h3,h4,h5⟩=>W.sat_bind (Gsk h4 (by omega)) fun o ⟨hoo,ho⟩=>W.sat_pure ?_
  subst hz
  rw [Gqy h4,Gqy h4]
  cases hx with
  | ptr hb=>
   rename_i b
   have hob:=hp.obsM id _ _ hk hb
   obtain ⟨cs,fr,g1,g0,g2,g3,g4,g5⟩:=hob.get
   have hmul:(n - p.1)*i.size+p.1*i.size=n*i.size:=by rw [← Nat.add_mul,Nat.sub_add_cancel (by omega)]
   refine ⟨.slice (some ⟨b.1,o,none⟩) (p.2 - p.1) (n - p.1),fun w=>?_,.sl hb (Nat.le_refl _) (fun _=>rfl) (by omega)⟩
   have:=ho n (Nat.le_refl _) (fun _=>rfl) b.1
   simp only [Instr.sliceAt,Sem.run_bind,GB hu,Result.andThen_ok,Instr.sureAddr,h5 false n w (Nat.le_refl _),Hy hi,Sem.run_pure,this]
 ·exact W.sat_fail
end
end Go.Proofs.YtdifanfcaemokaaGreatDoor.Av
