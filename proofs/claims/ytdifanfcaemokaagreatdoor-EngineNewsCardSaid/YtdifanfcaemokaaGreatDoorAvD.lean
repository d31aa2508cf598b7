import Derived.Calls
import Derived.Orders
import Derived.Below
import Derived.Laws.World
import Derived.Laws.Sem
import Derived.Laws.Cells
import Derived.Laws.Strings
import Derived.IntWalk
import Derived.Laws.StructEq
open Prod (fst)
open Int (tdiv tmod)
set_option linter.unusedVariables false
set_option linter.unusedSimpArgs false
namespace Go.Proofs.YtdifanfcaemokaaGreatDoor.Av
theorem dT {p:Prop} [Decidable p]:p→decide p=true:=decide_eq_true
theorem dF {p:Prop} [Decidable p]:¬p→decide p=false:=decide_eq_false
theorem nB {n m:Nat}:n.ble m=true→n≤m:=Nat.le_of_ble_eq_true
theorem sJ {α:Type _} (a b:α):(some a=some b)=(a=b):=Option.some.injEq a b
noncomputable section
open Go.RowKit
inductive Tr (α:Type) where
 | e
 | n (l:Tr α) (v:Option α) (r:Tr α)
namespace Tr
variable {α:Type}
def get:Tr α→Nat→Option α
 | .e,_=>none
 | .n l v r,k=>bif Nat.beq k 0 then v else bif Nat.beq (k % 2) 1 then l.get (k / 2) else r.get (k / 2 - 1)
def Gtf:Nat→Tr α→Nat→Option α→Tr α
 | 0,t,_,_=>t
 | f+1,.e,k,x=>bif Nat.beq k 0 then .n .e x .e else bif Nat.beq (k % 2) 1 then .n (Gtf f .e (k / 2) x) none .e else .n .e none (Gtf f .e (k / 2 - 1) x)
 | f+1,.n l v r,k,x=>bif Nat.beq k 0 then .n l x r else bif Nat.beq (k % 2) 1 then .n (Gtf f l (k / 2) x) v r else .n l v (Gtf f r (k / 2 - 1) x)
def put (t:Tr α) (k:Nat) (x:Option α):Tr α:=Gtf (k+1) t k x
def of:List (Nat×α)→Tr α
 | []=>.e
 | (k,x)::l=>(of l).put k (some x)
theorem get_e (k:Nat):(Tr.e:Tr α).get k=none:=rfl
theorem Gyg:∀ (f:Nat) (t:Tr α) (k j:Nat) (x:Option α),k<f→(Gtf f t k x).get j=if j=k then x else t.get j:=by
 intro f
 induction f with
 | zero=>intro t k j x h; omega
 | succ f ih=>
  intro t k j x h
  have hb:∀ a b:Nat,Nat.beq a b=decide (a=b):=fun a b=>by
   by_cases h:a=b
   ·subst h; simp
   ·simp only [h,decide_false]
    cases hh:Nat.beq a b
    ·rfl
    ·exact absurd (Nat.eq_of_beq_eq_true hh) h
  cases t with
  | e=>
   simp only [Gtf,hb]
   by_cases h0:k=0
   ·subst h0; by_cases hj:j=0 <;> simp [get,hb,hj]
   ·by_cases h1:k % 2=1
    ·simp only [h0,h1,decide_true,decide_false,cond_true,cond_false,get,hb]
     by_cases hj:j=0
     ·subst hj; simp; intro e; omega
     ·by_cases hj1:j % 2=1
      ·simp only [hj,hj1,decide_true,decide_false,cond_true,cond_false]
       rw [ih _ _ _ _ (by omega)]
       have:j / 2=k / 2↔j=k:=by omega
       simp only [this,get]
      ·simp only [hj,hj1,decide_true,decide_false,cond_true,cond_false]
       rw [if_neg (by intro e; subst e; exact hj1 h1)]
    ·simp only [h0,h1,decide_true,decide_false,cond_true,cond_false,get,hb]
     by_cases hj:j=0
     ·subst hj; simp; intro e; omega
     ·by_cases hj1:j % 2=1
      ·simp only [hj,hj1,decide_true,decide_false,cond_true,cond_false]
       rw [if_neg (by intro e; subst e; exact h1 hj1)]
      ·simp only [hj,hj1,decide_true,decide_false,cond_true,cond_false]
       rw [ih _ _ _ _ (by omega)]
       have:j / 2 - 1=k / 2 - 1↔j=k:=by omega
       simp only [this,get]
  | n l v r=>
   simp only [Gtf,hb]
   by_cases h0:k=0
   ·subst h0; by_cases hj:j=0 <;> simp [get,hb,hj]
   ·by_cases h1:k % 2=1
    ·simp only [h0,h1,decide_true,decide_false,cond_true,cond_false,get,hb]
     by_cases hj:j=0
     ·subst hj; simp; intro e; omega
     ·by_cases hj1:j % 2=1
      ·simp only [hj,hj1,decide_true,decide_false,cond_true,cond_false]
       rw [ih _ _ _ _ (by omega)]
       have:j / 2=k / 2↔j=k:=by omega
       simp only [this,get]
      ·simp only [hj,hj1,decide_true,decide_false,cond_true,cond_false]
       rw [if_neg (by intro e; subst e; exact hj1 h1)]
    ·simp only [h0,h1,decide_true,decide_false,cond_true,cond_false,get,hb]
     by_cases hj:j=0
     ·subst hj; simp; intro e; omega
     ·by_cases hj1:j % 2=1
      ·simp only [hj,hj1,decide_true,decide_false,cond_true,cond_false]
       rw [if_neg (by intro e; subst e; exact h1 hj1)]
      ·simp only [hj,hj1,decide_true,decide_false,cond_true,cond_false]
       rw [ih _ _ _ _ (by omega)]
       have:j / 2 - 1=k / 2 - 1↔j=k:=by omega
       simp only [this,get]
theorem get_put (t:Tr α) (k j:Nat) (x:Option α):(t.put k x).get j=if j=k then x else t.get j:=Gyg _ _ _ _ _ (Nat.lt_succ_self k)
end Tr
inductive AV where
 | any
 | bool (b:Bool)
 | int (k:IntKind) (n:Int)
 | str (s:List UInt8)
 | ptr (id off:Nat)
 | nilp
 | rop (c:List AV) (off:Nat)
 | sl (id off len cap:Nat) (ex:Bool) (z:Nat)
 | lst (c:List AV) (n:Nat)
 | vec (id n z:Nat)
 | nils
 | nen
 | agg (c:List AV)
 | tup (c:List AV)
 | fn (f:Fn) (first captured:List AV)
 | nilf
 | ifc (t:TypeId) (v:AV)
 | nili
 | mapr (id:Nat)
 | nilm
 | yld (id:Nat)
 | stp (id:Nat)
 deriving Inhabited
abbrev HY:Type:=Nat×Nat
inductive G1 (μ:Nat→Option HY) (ro:Nat→Prop) (w:World):Bool→AV→Value→Prop where
 | any {o:Bool} {v:Value}:G1 μ ro w o .any v
 | bool {o:Bool} {b:Bool}:G1 μ ro w o (.bool b) (.bool b)
 | int {o:Bool} {k:IntKind} {n:Int}:G1 μ ro w o (.int k n) (.int k n)
 | str {o:Bool} {s:List UInt8} {b:ByteArray} (h:b.data.toList=s):G1 μ ro w o (.str s) (.string b)
 | ptr {id off:Nat} {b:HY} (h:μ id=some b):G1 μ ro w true (.ptr id off) (.pointer (some ⟨b.1,off,none⟩))
 | nilp {o:Bool}:G1 μ ro w o .nilp (.pointer none)
 | rop {o:Bool} {c:List AV} {off b p:Nat} (vs:Nat→Value) (hb:ro b)
   (hc:∀ i,i<c.length→w.cell? ⟨b,p+i,none⟩=some (vs i)) (hr:∀ i,i<c.length→G1 μ ro w false (c.getD i .any) (vs i)):
   G1 μ ro w o (.rop c off) (.pointer (some ⟨b,p+off,none⟩))
 | sl {id off len cap cap' z:Nat} {b:HY} {ex:Bool} (h:μ id=some b) (h1:cap≤cap') (h2:ex=true→cap'=cap) (h3:off+cap'*z≤b.2):
   G1 μ ro w true (.sl id off len cap ex z) (.slice (some ⟨b.1,off,none⟩) len cap')
 | vec {id n z cap':Nat} {b:HY} (h:μ id=some b) (h1:n≤cap') (h3:cap'*z≤b.2):G1 μ ro w true (.vec id n z) (.slice (some ⟨b.1,0,none⟩) n cap')
 | vecn {id z:Nat}:G1 μ ro w true (.vec id 0 z) (.slice none 0 0)
 | lst {o:Bool} {c:List AV} {n cap':Nat} {a:Addr} (vs:Nat→Value) (hb:c≠[]→ro a.block∧a.spot=none)
   (hc:∀ i,i<c.length→w.cell? ⟨a.block,a.off+i,none⟩=some (vs i)) (hr:∀ i,i<c.length→G1 μ ro w false (c.getD i .any) (vs i)) (hn:n≤cap'):
   G1 μ ro w o (.lst c n) (.slice (some a) n cap')
 | lstn {o:Bool}:G1 μ ro w o (.lst [] 0) (.slice none 0 0)
 | nils {o:Bool}:G1 μ ro w o .nils (.slice none 0 0)
 | nen {o:Bool} {a:Addr} {cap':Nat}:G1 μ ro w o .nen (.slice (some a) 0 cap')
 | agg {o:Bool} {c:List AV} {vs:Array Value} (hn:vs.size=c.length) (hr:∀ i,i<c.length→G1 μ ro w o (c.getD i .any) (vs.getD i undef)):G1 μ ro w o (.agg c) (.agg vs)
 | tup {o:Bool} {c:List AV} {vs:Array Value} (hn:vs.size=c.length) (hr:∀ i,i<c.length→G1 μ ro w o (c.getD i .any) (vs.getD i undef)):G1 μ ro w o (.tup c) (.tuple vs)
 | fn {o:Bool} {f:Fn} {a c:List AV} {as cs:Array Value} (hn:as.size=a.length) (hr:∀ i,i<a.length→G1 μ ro w o (a.getD i .any) (as.getD i undef))
   (hm:cs.size=c.length) (hs:∀ i,i<c.length→G1 μ ro w o (c.getD i .any) (cs.getD i undef)):G1 μ ro w o (.fn f a c) (.func f as cs)
 | nilf {o:Bool}:G1 μ ro w o .nilf .nilFunc
 | ifc {o:Bool} {t:TypeId} {v:AV} {x:Value} (h:G1 μ ro w o v x):G1 μ ro w o (.ifc t v) (.iface t x)
 | nili {o:Bool}:G1 μ ro w o .nili .nilIface
 | mapr {id:Nat} {b:HY} (h:μ id=some b):G1 μ ro w true (.mapr id) (.map (some b.1))
 | nilm {o:Bool}:G1 μ ro w o .nilm (.map none)
 | yld {id:Nat} {b:HY} (h:μ id=some b):G1 μ ro w true (.yld id) (.func (.yield b.1) #[] #[])
 | stp {id:Nat} {b:HY} (h:μ id=some b):G1 μ ro w true (.stp id) (.int .i64 (b.2:Int))
variable {μ μ':Nat→Option HY} {ro ro':Nat→Prop} {w w':World}
theorem G1.mono {o:Bool} {v:AV} {x:Value} (h:G1 μ ro w o v x) (hμ:∀ i b,μ i=some b→μ' i=some b) (hro:∀ b,ro b→ro' b)
  (hw:∀ b,ro b→w'.heap[b]?=w.heap[b]?):G1 μ' ro' w' o v x:=by
 have hcell:∀ b i,ro b→w'.cell? ⟨b,i,none⟩=w.cell? ⟨b,i,none⟩:=fun b i hb=>by simp only [World.cell?,hw b hb]
 induction h with
 | any=>exact .any
 | bool=>exact .bool
 | int=>exact .int
 | str h=>exact .str h
 | ptr h=>exact .ptr (hμ _ _ h)
 | nilp=>exact .nilp
 | rop vs hb hc _ ih=>exact .rop vs (hro _ hb) (fun i hi=>(hcell _ _ hb).trans (hc i hi)) (fun i hi=>ih i hi)
 | sl h h1 h2 h3=>exact .sl (hμ _ _ h) h1 h2 h3
 | vec h h1 h3=>exact .vec (hμ _ _ h) h1 h3
 | vecn=>exact .vecn
 | lstn=>exact .lstn
 | lst vs hb hc _ hn ih=>
  refine .lst vs (fun hne=>⟨hro _ (hb hne).1,(hb hne).2⟩) (fun i hi=>?_) (fun i hi=>ih i hi) hn
  have hne:=hb (fun e=>by subst e; simp at hi)
  exact (hcell _ _ hne.1).trans (hc i hi)
 | nils=>exact .nils
 | nen=>exact .nen
 | agg hn _ ih=>exact .agg hn fun i hi=>ih i hi
 | tup hn _ ih=>exact .tup hn fun i hi=>ih i hi
 | fn hn _ hm _ ih ih'=>exact .fn hn (fun i hi=>ih i hi) hm (fun i hi=>ih' i hi)
 | nilf=>exact .nilf
 | ifc _ ih=>exact .ifc ih
 | nili=>exact .nili
 | mapr h=>exact .mapr (hμ _ _ h)
 | nilm=>exact .nilm
 | yld h=>exact .yld (hμ _ _ h)
 | stp h=>exact .stp (hμ _ _ h)
theorem G1.lst_cases {o:Bool} {x:Value} (h:G1 μ ro w o (.lst [] 0) x):G1 μ ro w o .nils x∨G1 μ ro w o .nen x:=by
 cases h with
 | lstn=>exact .inl .nils
 | lst=>exact .inr .nen
theorem G1.up {v:AV} {x:Value} (h:G1 μ ro w false v x):G1 μ ro w true v x:=by
 generalize ho:false=o at h
 induction h with
 | any=>exact .any
 | bool=>exact .bool
 | int=>exact .int
 | str h=>exact .str h
 | ptr h=>cases ho
 | nilp=>exact .nilp
 | rop vs hb hc hr _=>exact .rop vs hb hc hr
 | sl h h1 h2 h3=>cases ho
 | vec h h1 h3=>cases ho
 | vecn=>cases ho
 | lst vs hb hc hr hn _=>exact .lst vs hb hc hr hn
 | lstn=>exact .lstn
 | nils=>exact .nils
 | nen=>exact .nen
 | agg hn _ ih=>exact .agg hn fun i hi=>ih i hi ho
 | tup hn _ ih=>exact .tup hn fun i hi=>ih i hi ho
 | fn hn _ hm _ ih ih'=>exact .fn hn (fun i hi=>ih i hi ho) hm (fun i hi=>ih' i hi ho)
 | nilf=>exact .nilf
 | ifc _ ih=>exact .ifc (ih ho)
 | nili=>exact .nili
 | mapr h=>cases ho
 | nilm=>exact .nilm
 | yld h=>cases ho
 | stp h=>cases ho
theorem G1.any_o {o:Bool} {v:AV} {x:Value} (h:G1 μ ro w false v x):G1 μ ro w o v x:=by
 cases o
 ·exact h
 ·exact h.up
def GQ (μ:Nat→Option HY) (ro:Nat→Prop) (w:World) (o:Bool) (c:List AV) (vs:List Value):Prop:=
 vs.length=c.length∧∀ i,i<c.length→G1 μ ro w o (c.getD i .any) (vs.getD i undef)
inductive KB where
 | s
 | i (k:IntKind)
inductive KK where
 | s
 | i (k:IntKind)
 | g (l:List KB)
inductive It where
 | str (s:List UInt8) (p:Nat)
 | map (kd:KK) (es:List (AV×AV))
 | rm (m:Nat) (kd:KK) (es:List (AV×AV)) (ms:List MapEntry) (cl:Nat)
 | mit (m since:Nat) (seen:List Nat) (cl:Nat)
structure Hb where
 c:List AV
 e:TypeId
 ext:Bool
 fz:Nat
 pl:Bool
 o:Bool:=false
 it:Option It:=none
inductive Ob where
 | blk (b:Hb)
 | iter (s:List UInt8) (pos:Nat)
 | map (kd:KK) (es:List (AV×AV))
 | rm (m:Nat) (kd:KK) (es:List (AV×AV)) (ms:List MapEntry) (cl:Nat)
 | mit (m since:Nat) (seen:List Nat) (cl:Nat)
 | mie (id:Nat)
 | lp (bz:Bool) (tm:Tr AV) (nt:Nat) (ps:Array Tmp) (as bd:Code)
 | dfr
 | mst (id:Nat) (kd:KK) (es:List (AV×AV)) (key:AV)
def It.ob:It→Ob
 | .str s p=>.iter s p
 | .map kd es=>.map kd es
 | .rm m kd es ms cl=>.rm m kd es ms cl
 | .mit m a b c=>.mit m a b c
def Hb.ob (b:Hb):Ob:=match b.it with | none=>.blk b | some t=>t.ob
structure ME (μ:Nat→Option HY) (ro:Nat→Prop) (w:World) (b:HY) (k:Hb):Prop where
 mk'::
 get:∃ (cs:Array Value) (fr:Nat×Nat),w.heap[b.1]?=some (.cells cs k.e fr)∧cs.size=b.2∧k.c.length≤cs.size∧(k.ext=false→cs.size=k.c.length)∧
  (∀ i,fr.1≤i→i<fr.2→i<k.fz∨cs.size≤i)∧(∀ i,i<k.c.length→G1 μ ro w (!k.pl) (k.c.getD i .any) (cs.getD i undef))
def JC:KB→AV→Option Value
 | .s,.str s=>some (.string ⟨s.toArray⟩)
 | .i j,.int k n=>if k=j then some (.int k n) else none
 | _,_=>none
def JV:List KB→List AV→Option (List Value)
 | [],[]=>some []
 | b::l,c::cs=>match JC b c,JV l cs with | some v,some vs=>some (v::vs) | _,_=>none
 | _,_=>none
def He:KK→AV→Option Value
 | .s,.str s=>some (.string ⟨s.toArray⟩)
 | .i j,.int k n=>if k=j then some (.int k n) else none
 | .g l,.agg cs=>(JV l cs).map fun vs=>.agg vs.toArray
 | _,_=>none
inductive Mt (kd:KK) (μ:Nat→Option HY) (ro:Nat→Prop) (w:World):List (AV×AV)→List MapEntry→Prop where
 | nil:Mt kd μ ro w [] []
 | cons {k v:AV} {m:MapEntry} {es:List (AV×AV)} {ms:List MapEntry} (hk:He kd k=some m.key) (hv:G1 μ ro w false v m.val) (h:Mt kd μ ro w es ms):Mt kd μ ro w ((k,v)::es) (m::ms)
def GaP (μ:Nat→Option HY) (ro:Nat→Prop) (w:World) (b:HY) (kd:KK) (es:List (AV×AV)):Prop:=
 ∃ (ms:Array MapEntry) (clock:Nat) (p:List MapEntry),w.heap[b.1]?=some (.map ms clock)∧p.Perm ms.toList∧Mt kd μ ro w es p∧(∀ e ∈ ms.toList,e.born<clock)∧(ms.toList.map (·.born)).Nodup∧(es.map (·.1)).Nodup
def Gm3 (μ:Nat→Option HY) (ro:Nat→Prop) (w:World) (b:HY) (m:Nat) (kd:KK) (es:List (AV×AV)) (ms:List MapEntry) (cl:Nat):Prop:=
 b.1=m∧w.heap[b.1]?=some (.map ms.toArray cl)∧Mt kd μ ro w es ms∧(∀ e ∈ ms,e.born<cl)∧(ms.map (·.born)).Nodup∧(es.map (·.1)).Nodup
def Ve (μ:Nat→Option HY) (ro:Nat→Prop) (w:World) (b:HY):Ob→Prop
 | .blk k=>ME μ ro w b k
 | .iter s pos=>∃ t:ByteArray,w.heap[b.1]?=some (.stringIter t pos)∧t.data.toList=s
 | .map kd es=>GaP μ ro w b kd es
 | .rm m kd es ms cl=>Gm3 μ ro w b m kd es ms cl
 | .mit m since seen cl=>w.heap[b.1]?=some (.mapIter (some m) since seen.toArray cl)
 | .mie id=>∃ (l:HY) (c:Nat) (seen:Array Nat),μ id=some l∧w.heap[b.1]?=some (.mapIter (some l.1) c seen c)
 | .lp bz tm nt ps as bd=>∃ (fn:FuncId) (tmps:Array Value) (d:Nat),w.heap[b.1]?=some (.loop { state:=match bz with | true=>.busy | false=>.ready,pending:=none,fn:=fn,tmps:=tmps,params:=ps,assign:=as,body:=bd,defers:=d })∧
   tmps.size=nt∧∀ t v,tm.get t=some v→G1 μ ro w true v (tmps.getD t undef)
 | .dfr=>w.heap[b.1]?=some (.deferred (some []))
 | .mst id kd es key=>∃ (l:HY) (ms:Array MapEntry) (clock:Nat) (p:List MapEntry) (m:MapEntry),μ id=some l∧l.1=b.1∧w.heap[b.1]?=some (.map ms clock)∧p.Perm ms.toList∧Mt kd μ ro w es p∧
   (∀ e ∈ ms.toList,e.born<clock)∧(ms.toList.map (·.born)).Nodup∧(es.map (·.1)).Nodup∧m ∈ ms.toList∧m.born=b.2∧He kd key=some m.key
theorem ME.mono {b:HY} {k:Hb} (h:ME μ ro w b k) (hμ:∀ i b,μ i=some b→μ' i=some b) (hro:∀ b,ro b→ro' b)
  (hw:∀ b,ro b→w'.heap[b]?=w.heap[b]?) (hb:w'.heap[b.1]?=w.heap[b.1]?):ME μ' ro' w' b k:=by
 obtain ⟨cs,fr,h1,h0,h2,h3,h4,h5⟩:=h.get
 exact ⟨cs,fr,hb.trans h1,h0,h2,h3,h4,fun i hi=>(h5 i hi).mono hμ hro hw⟩
theorem Mt.mono {kd:KK} {es:List (AV×AV)} {ms:List MapEntry} (h:Mt kd μ ro w es ms) (hμ:∀ i b,μ i=some b→μ' i=some b) (hro:∀ b,ro b→ro' b)
  (hw:∀ b,ro b→w'.heap[b]?=w.heap[b]?):Mt kd μ' ro' w' es ms:=by
 induction h with
 | nil=>exact .nil
 | cons hk hv _ ih=>exact .cons hk (hv.mono hμ hro hw) ih
theorem Ve.mono {b:HY} {k:Ob} (h:Ve μ ro w b k) (hμ:∀ i b,μ i=some b→μ' i=some b) (hro:∀ b,ro b→ro' b)
  (hw:∀ b,ro b→w'.heap[b]?=w.heap[b]?) (hb:w'.heap[b.1]?=w.heap[b.1]?):Ve μ' ro' w' b k:=by
 cases k with
 | blk k=>exact ME.mono h hμ hro hw hb
 | iter s pos=>obtain ⟨t,h1,h2⟩:=h; exact ⟨t,hb.trans h1,h2⟩
 | map kd es=>obtain ⟨ms,cl,p,h1,h2,h3,h4⟩:=h; exact ⟨ms,cl,p,hb.trans h1,h2,h3.mono hμ hro hw,h4⟩
 | rm m kd es ms cl=>obtain ⟨h0,h1,h3,h4⟩:=h; exact ⟨h0,hb.trans h1,h3.mono hμ hro hw,h4⟩
 | mit m a b c=>exact hb.trans h
 | mie id=>obtain ⟨l,a,b,h1,h2⟩:=h; exact ⟨l,a,b,hμ _ _ h1,hb.trans h2⟩
 | lp bz tm nt ps as bd=>obtain ⟨fn,tmps,d,h1,h2,h3⟩:=h; exact ⟨fn,tmps,d,hb.trans h1,h2,fun t v ht=>(h3 t v ht).mono hμ hro hw⟩
 | dfr=>exact hb.trans h
 | mst id kd es key=>obtain ⟨l,ms,cl,p,m,h1,h2,h3,h4,h5,h6⟩:=h; exact ⟨l,ms,cl,p,m,hμ _ _ h1,h2,hb.trans h3,h4,h5.mono hμ hro hw,h6⟩
def Ob.abs:Ob→Prop
 | .blk k=>k.o=true∧k.c=[]
 | _=>False
structure Hp where
 m:Tr Ob
 nx:Nat
structure GV (μ:Nat→Option HY) (ro:Nat→Prop) (h:Hp) (w:World):Prop where
 obs:∀ i k,h.m.get i=some k→(∃ b,μ i=some b∧Ve μ ro w b k)∨(μ i=none∧k.abs∧i<h.nx)
 inj:∀ i j k l (b c:HY),h.m.get i=some k→h.m.get j=some l→μ i=some b→μ j=some c→b.1=c.1→i=j
 own:∀ i k (b:HY),h.m.get i=some k→μ i=some b→¬ ro b.1
 lt:∀ i (b:HY),μ i=some b→b.1<w.heap.size
 old:∀ b,ro b→b<w.heap.size
 nx:∀ i,h.nx≤i→μ i=none
theorem GV.obsT {h:Hp} (hh:GV μ ro h w) (i:Nat) (t:It) (hi:h.m.get i=some t.ob):∃ b,μ i=some b∧Ve μ ro w b t.ob:=by
 rcases hh.obs i _ hi with h | ⟨_,h,_⟩
 ·exact h
 ·cases t <;> exact h.elim
theorem GV.obsM {h:Hp} (hh:GV μ ro h w) (i:Nat) (k:Ob) (l:HY) (hi:h.m.get i=some k) (hl:μ i=some l):Ve μ ro w l k:=by
 rcases hh.obs i _ hi with ⟨b,h1,h2⟩ | ⟨h1,_⟩
 ·rw [hl] at h1; cases h1; exact h2
 ·rw [hl] at h1; cases h1
def VG (n:Nat) (μ μ':Nat→Option HY):Prop:=∀ i,i<n→μ' i=μ i
theorem VG.refl (n:Nat) (μ:Nat→Option HY):VG n μ μ:=fun _ _=>rfl
theorem VG.trans {n:Nat} {μ'':Nat→Option HY} (h:VG n μ μ') (k:VG n μ' μ''):VG n μ μ'':=fun i hi=>(k i hi).trans (h i hi)
theorem VG.mono {n m:Nat} (h:VG n μ μ') (hm:m≤n):VG m μ μ':=fun i hi=>h i (Nat.lt_of_lt_of_le hi hm)
theorem VG.ext {n:Nat} (h:VG n μ μ') (hn:∀ i,n≤i→μ i=none):∀ i b,μ i=some b→μ' i=some b:=fun i b hb=>by
 rcases Nat.lt_or_ge i n with hi | hi
 ·rw [h i hi]; exact hb
 ·rw [hn i hi] at hb; cases hb
structure Fr (μ:Nat→Option HY) (ro:Nat→Prop) (w:World) (μ':Nat→Option HY) (w':World):Prop where
 os:w'.os=w.os
 tape:w'.tape=w.tape
 output:w'.output=w.output
 size:w.heap.size≤w'.heap.size
 block:∀ b,ro b→w'.heap[b]?=w.heap[b]?
 rest:∀ b,b<w.heap.size→(∀ i l,μ i=some l→l.1≠b)→w'.heap[b]?=w.heap[b]?
 new:∀ i l,μ' i=some l→(∃ j m,μ j=some m∧m.1=l.1)∨w.heap.size≤l.1
theorem Fr.refl (μ:Nat→Option HY) (ro:Nat→Prop) (w:World):Fr μ ro w μ w:=⟨rfl,rfl,rfl,Nat.le_refl _,fun _ _=>rfl,fun _ _ _=>rfl,fun i l h=>.inl ⟨i,l,h,rfl⟩⟩
theorem Fr.trans {μ'':Nat→Option HY} {w'':World} (h:Fr μ ro w μ' w') (k:Fr μ' ro' w' μ'' w'') (hro:∀ b,ro b→ro' b):Fr μ ro w μ'' w'':=
 ⟨k.os.trans h.os,k.tape.trans h.tape,k.output.trans h.output,Nat.le_trans h.size k.size,fun b hb=>(k.block b (hro b hb)).trans (h.block b hb),
  fun b hb hn=>(k.rest b (Nat.lt_of_lt_of_le hb h.size) (fun i l hi e=>by
   rcases h.new i l hi with ⟨j,m,hj,hm⟩ | hl
   ·exact hn j m hj (hm.trans e)
   ·omega)).trans (h.rest b hb hn),
  fun i l hi=>by
   rcases k.new i l hi with ⟨j,m,hj,hm⟩ | hl
   ·rcases h.new j m hj with ⟨j',m',hj',hm'⟩ | hl
    ·exact .inl ⟨j',m',hj',hm'.trans hm⟩
    ·exact .inr (by omega)
   ·exact .inr (Nat.le_trans h.size hl)⟩
theorem Fr.weaken (h:Fr μ ro' w μ' w') (hro:∀ b,ro b→ro' b):Fr μ ro w μ' w':=⟨h.os,h.tape,h.output,h.size,fun b hb=>h.block b (hro b hb),h.rest,h.new⟩
theorem Fr.pre {μ0:Nat→Option HY} (h:Fr μ0 ro w μ' w') (hn:∀ i l,μ0 i=some l→∃ j m,μ j=some m∧m.1=l.1):Fr μ ro w μ' w':=
 ⟨h.os,h.tape,h.output,h.size,h.block,fun b hb hb2=>h.rest b hb fun i l hi e=>by
   obtain ⟨j,m,hj,hm⟩:=hn i l hi
   exact hb2 j m hj (hm.trans e),
  fun i l hi=>by
   rcases h.new i l hi with ⟨j,m,hj,hm⟩ | hl
   ·obtain ⟨j',m',hj',hm'⟩:=hn j m hj
    exact .inl ⟨j',m',hj',hm'.trans hm⟩
   ·exact .inr hl⟩
theorem Fr.drew (μ:Nat→Option HY) (ro:Nat→Prop) (w:World):Fr μ ro w μ w.drew:=⟨rfl,rfl,rfl,Nat.le_refl _,fun _ _=>rfl,fun _ _ _=>rfl,fun i l h=>.inl ⟨i,l,h,rfl⟩⟩
theorem GV.drew {h:Hp} (hh:GV μ ro h w):GV μ ro h w.drew:=
 ⟨fun i k hk=>(hh.obs i k hk).imp_left fun ⟨b,h1,h2⟩=>⟨b,h1,h2.mono (fun _ _ h=>h) (fun _ h=>h) (fun _ _=>rfl) rfl⟩,hh.inj,hh.own,hh.lt,hh.old,hh.nx⟩
theorem GV.same {h:Hp} (hh:GV μ ro h w) (hs:w.heap.size≤w'.heap.size) (hro:∀ b,ro b→w'.heap[b]?=w.heap[b]?)
  (hown:∀ i k (b:HY),h.m.get i=some k→μ i=some b→w'.heap[b.1]?=w.heap[b.1]?):GV μ ro h w':=
 ⟨fun i k hk=>(hh.obs i k hk).imp_left fun ⟨b,h1,h2⟩=>⟨b,h1,h2.mono (fun _ _ h=>h) (fun _ h=>h) hro (hown i k b hk h1)⟩,hh.inj,hh.own,
  fun i b hb=>Nat.lt_of_lt_of_le (hh.lt i b hb) hs,fun b hb=>Nat.lt_of_lt_of_le (hh.old b hb) hs,hh.nx⟩
def Hp.new (h:Hp) (k:Ob):Hp:=⟨h.m.put h.nx (some k),h.nx+1⟩
def upd (μ:Nat→Option HY) (i:Nat) (b:HY):Nat→Option HY:=fun j=>if j=i then some b else μ j
theorem Gh1 {h:Hp} (hh:GV μ ro h w) (n:HY):∀ i b,μ i=some b→upd μ h.nx n i=some b:=fun i b hb=>by
 unfold upd
 rw [if_neg (by intro e; have:=hh.nx i (by omega); rw [this] at hb; cases hb)]
 exact hb
theorem KJ (n:Nat) (l:HY):VG n μ (upd μ n l):=fun i hi=>by
 unfold upd
 rw [if_neg (by omega)]
theorem GV.add {h:Hp} (hh:GV μ ro h w) (k:Ob) (l:HY) (hs:w.heap.size≤w'.heap.size) (hl:l.1<w'.heap.size) (hnew:∀ i k' b,h.m.get i=some k'→μ i=some b→b.1≠l.1) (hro:¬ ro l.1)
  (hw:∀ j,j≠l.1→j<w.heap.size→w'.heap[j]?=w.heap[j]?) (hk:Ve (upd μ h.nx l) ro w' l k):GV (upd μ h.nx l) ro (h.new k) w':=by
 have hμ:=Gh1 hh l
 have hr:∀ b,ro b→w'.heap[b]?=w.heap[b]?:=fun b hb=>hw b (fun e=>hro (e ▸ hb)) (hh.old b hb)
 constructor
 ·intro i k' hi
  simp only [Hp.new,Tr.get_put] at hi
  by_cases e:i=h.nx
  ·subst e
   simp only [if_true,sJ] at hi
   subst hi
   exact .inl ⟨l,by simp [upd],hk⟩
  ·rw [if_neg e] at hi
   rcases hh.obs i k' hi with ⟨b,hb,hob⟩ | ⟨hb,hab⟩
   ·exact .inl ⟨b,hμ _ _ hb,hob.mono hμ (fun _ h=>h) hr (hw _ (hnew i k' b hi hb) (hh.lt i b hb))⟩
   ·exact .inr ⟨by unfold upd; rw [if_neg e]; exact hb,hab.1,Nat.lt_succ_of_lt hab.2⟩
 ·intro i j k' m b c hi hj hbi hbj hbc
  simp only [Hp.new,Tr.get_put] at hi hj
  unfold upd at hbi hbj
  by_cases e:i=h.nx <;> by_cases e':j=h.nx
  ·omega
  ·rw [if_pos e] at hbi; rw [if_neg e'] at hbj hj
   simp only [sJ] at hbi
   exact absurd (hbc.symm.trans (by rw [hbi])) (hnew j m c hj hbj)
  ·rw [if_neg e] at hbi hi; rw [if_pos e'] at hbj
   simp only [sJ] at hbj
   exact absurd (hbc.trans (by rw [hbj])) (hnew i k' b hi hbi)
  ·rw [if_neg e] at hbi hi; rw [if_neg e'] at hbj hj
   exact hh.inj i j k' m b c hi hj hbi hbj hbc
 ·intro i k' b hi hb hrb
  simp only [Hp.new,Tr.get_put] at hi
  unfold upd at hb
  by_cases e:i=h.nx
  ·rw [if_pos e] at hb
   simp only [sJ] at hb
   subst hb
   exact hro hrb
  ·rw [if_neg e] at hb hi
   exact hh.own i k' b hi hb hrb
 ·intro i b hb
  unfold upd at hb
  by_cases e:i=h.nx
  ·rw [if_pos e] at hb
   simp only [sJ] at hb
   subst hb
   exact hl
  ·rw [if_neg e] at hb
   exact Nat.lt_of_lt_of_le (hh.lt i b hb) hs
 ·intro b hb
  exact Nat.lt_of_lt_of_le (hh.old b hb) hs
 ·intro i hi
  simp only [Hp.new] at hi
  unfold upd
  rw [if_neg (by omega)]
  exact hh.nx i (by omega)
theorem GV.new {h:Hp} (hh:GV μ ro h w) (o:Obj) (k:Ob) (n:Nat)
  (hk:Ve (upd μ h.nx (w.heap.size,n)) ro (w.alloc o) (w.heap.size,n) k):GV (upd μ h.nx (w.heap.size,n)) ro (h.new k) (w.alloc o):=
 hh.add k _ (by simp) (by simp) (fun i k' b hi hb=>Nat.ne_of_lt (hh.lt i b hb)) (fun hr=>Nat.lt_irrefl _ (hh.old _ hr)) (fun j _ hj=>Below.heap_alloc w o j hj) hk
theorem Fr.alloc {h:Hp} (hh:GV μ ro h w) (o:Obj) (n:Nat):Fr μ ro w (upd μ h.nx (w.heap.size,n)) (w.alloc o):=
 ⟨rfl,rfl,rfl,by simp,fun b hb=>Below.heap_alloc _ _ _ (hh.old b hb),fun b hb _=>Below.heap_alloc _ _ _ hb,fun i l hi=>by
  unfold upd at hi
  split at hi
  ·simp only [sJ] at hi; subst hi; exact .inr (Nat.le_refl _)
  ·exact .inl ⟨i,l,hi,rfl⟩⟩
theorem Fr.write {b:HY} {i:Nat} (hb:μ i=some b) (os:w'.os=w.os) (tape:w'.tape=w.tape) (output:w'.output=w.output) (size:w'.heap.size=w.heap.size) (hro:¬ ro b.1)
  (hw:∀ j,j≠b.1→w'.heap[j]?=w.heap[j]?):Fr μ ro w μ w':=
 ⟨os,tape,output,Nat.le_of_eq size.symm,fun c hc=>hw c (fun e=>hro (e ▸ hc)),fun c _ hn=>hw c (fun e=>hn i b hb e.symm),fun j l h=>.inl ⟨j,l,h,rfl⟩⟩
def Hp.set (h:Hp) (i:Nat) (k:Ob):Hp:=⟨h.m.put i (some k),h.nx⟩
theorem GV.set {h:Hp} (hh:GV μ ro h w) {i:Nat} {b:HY} {k k':Ob} (hi:h.m.get i=some k) (hb:μ i=some b) (hs:w.heap.size≤w'.heap.size)
  (hw:∀ j,j≠b.1→j<w.heap.size→w'.heap[j]?=w.heap[j]?) (hk:Ve μ ro w' b k'):GV μ ro (h.set i k') w':=by
 have hro:∀ j,ro j→w'.heap[j]?=w.heap[j]?:=fun j hj=>hw j (fun e=>hh.own i k b hi hb (e ▸ hj)) (hh.old j hj)
 have hin:∀ j l,(h.set i k').m.get j=some l→∃ l',h.m.get j=some l':=fun j l hj=>by
  simp only [Hp.set,Tr.get_put] at hj
  by_cases e:j=i
  ·exact ⟨k,e ▸ hi⟩
  ·rw [if_neg e] at hj; exact ⟨l,hj⟩
 constructor
 ·intro j l hj
  simp only [Hp.set,Tr.get_put] at hj
  by_cases e:j=i
  ·rw [if_pos e] at hj
   simp only [sJ] at hj
   subst hj
   exact .inl ⟨b,e ▸ hb,hk⟩
  ·rw [if_neg e] at hj
   exact (hh.obs j l hj).imp_left fun ⟨c,hc,hob⟩=>⟨c,hc,hob.mono (fun _ _ h=>h) (fun _ h=>h) hro (hw c.1 (fun e'=>e (hh.inj j i l k c b hj hi hc hb e')) (hh.lt j c hc))⟩
 ·intro j j' l l' c d hj hj' h1 h2 h3
  obtain ⟨m,hm⟩:=hin j l hj
  obtain ⟨m',hm'⟩:=hin j' l' hj'
  exact hh.inj j j' m m' c d hm hm' h1 h2 h3
 ·intro j l c hj hc
  obtain ⟨m,hm⟩:=hin j l hj
  exact hh.own j m c hm hc
 ·intro j c hc; exact Nat.lt_of_lt_of_le (hh.lt j c hc) hs
 ·intro c hc; exact Nat.lt_of_lt_of_le (hh.old c hc) hs
 ·exact hh.nx
theorem GV.sub {h h':Hp} (hh:GV μ ro h w) (hs:∀ i k,h'.m.get i=some k→h.m.get i=some k) (hn:h'.nx=h.nx):GV μ ro h' w:=
 ⟨fun i k hk=>hn ▸ hh.obs i k (hs i k hk),fun i j k l b c hi hj=>hh.inj i j k l b c (hs i k hi) (hs j l hj),fun i k b hi=>hh.own i k b (hs i k hi),hh.lt,hh.old,hn ▸ hh.nx⟩
theorem GV.weak {h h':Hp} (hh:GV μ ro h w) (hn:h'.nx=h.nx) (hk:∀ i k',h'.m.get i=some k'→∃ k,h.m.get i=some k∧(∀ b,μ i=some b→Ve μ ro w b k→Ve μ ro w b k')∧(k.abs→k'.abs)):GV μ ro h' w:=
 ⟨fun i k' hi=>let ⟨k,h1,h2,h5⟩:=hk i k' hi; (hh.obs i k h1).elim (fun ⟨b,h3,h4⟩=>.inl ⟨b,h3,h2 b h3 h4⟩) fun ⟨h3,h4,h6⟩=>.inr ⟨h3,h5 h4,hn ▸ h6⟩,
  fun i j k l b c hi hj=>let ⟨k',h1,_⟩:=hk i k hi; let ⟨l',h2,_⟩:=hk j l hj; hh.inj i j k' l' b c h1 h2,
  fun i k b hi=>let ⟨k',h1,_⟩:=hk i k hi; hh.own i k' b h1,hh.lt,hh.old,hn ▸ hh.nx⟩
def Hp.del (h:Hp) (i:Nat):Hp:=⟨h.m.put i none,h.nx⟩
theorem GV.del {h:Hp} (hh:GV μ ro h w) (i:Nat):GV μ ro (h.del i) w:=
 hh.sub (fun j k hj=>by simp only [Hp.del,Tr.get_put] at hj; split at hj; cases hj; exact hj) rfl
end
noncomputable section
open Go.RowKit
theorem GB {P:Program} {t:TypeId} {d:TypeDesc} (h:P.underlying t=some d) (w:World):(underlying t).run P w=.ok d w:=by
 simp [underlying,h,Result.andThen]
theorem GbE {P:Program} {t:TypeId} {i:TypeInfo} (h:P.info? t=some i) (w:World):(typeInfo t).run P w=.ok i w:=by
 simp [typeInfo,h,Result.andThen]
theorem Hy {P:Program} {t:TypeId} {i:TypeInfo} (h:P.info? t=some i) (w:World):(sizeOf t).run P w=.ok i.size w:=by
 simp [sizeOf,GbE h,Result.andThen]
theorem ZB {P:Program} {t:TypeId} {i:TypeInfo} {v:Value} (h:P.info? t=some i) (hz:i.zero=some v) (w:World):(zeroValue t).run P w=.ok v w:=by
 simp [zeroValue,GbE h,hz,Result.andThen]
def Ug (P:Program) (t:TypeId):Option Nat:=(P.info? t).map (·.size)
def Ru:TypeDesc→Bool
 | .struct _ | .array _ _=>true
 | _=>false
theorem Gn8 {P:Program} {t:TypeId} {d:TypeDesc} (h:P.underlying t=some d) (w:World):(isAgg t).run P w=.ok (Ru d) w:=by
 cases d <;> simp [isAgg,GB h,Result.andThen,Ru]
theorem Ko (b off i:Nat):(⟨b,off,none⟩:Addr).add i=⟨b,off+i,none⟩:=by
 unfold Addr.add
 split
 ·subst_vars; rfl
 ·rfl
theorem Gin {α:Type} (l:List α) (i:Nat) (d:α) (h:i<l.length):l[i]?=some (l.getD i d):=by
 simp [List.getD,List.getElem?_eq_getElem h]
theorem GoM {α:Type} (l:Array α) (i:Nat) (d:α) (h:i<l.size):l[i]?=some (l.getD i d):=by
 simp [Array.getElem?_eq_getElem h,Array.getD,h]
theorem G5 {α:Type} (l:Array α) (i:Nat) (d:α):l.toList.getD i d=l.getD i d:=by
 simp [List.getD,Array.getD]
 split <;> simp_all
structure GzE (w w':World) (b:Nat) (e:TypeId) (fr:Nat×Nat) (cs':Array Value):Prop where
 at_:w'.heap[b]?=some (.cells cs' e fr)
 other:∀ j,j≠b→w'.heap[j]?=w.heap[j]?
 size:w'.heap.size=w.heap.size
 os:w'.os=w.os
 tape:w'.tape=w.tape
 output:w'.output=w.output
theorem GpV {w:World} {b off:Nat} {e:TypeId} {fr:Nat×Nat} {cs:Array Value} (h:w.heap[b]?=some (.cells cs e fr)) (v:Value):
  GzE w (w.setCell ⟨b,off,none⟩ v) b e fr (cs.setIfInBounds off v):=by
 refine ⟨?_,fun j hj=>Below.heap_setCell _ _ _ _ hj,by simp,rfl,rfl,rfl⟩
 simp only [World.setCell,Array.getElem?_modify,if_true,h,Option.map_some]
 rfl
theorem Gag {w:World} {b off:Nat} {e:TypeId} {fr:Nat×Nat} {cs:Array Value} (h:w.heap[b]?=some (.cells cs e fr)) (ho:off<cs.size):
  w.cell? ⟨b,off,none⟩=some (cs.getD off undef):=by
 simp only [World.cell?,h]
 exact GoM cs off undef ho
theorem Gwn {w:World} {b off:Nat} {e:TypeId} {fr:Nat×Nat} {cs:Array Value} (h:w.heap[b]?=some (.cells cs e fr)) (ho:¬ (fr.1≤off∧off<fr.2)):
  w.frozen? ⟨b,off,none⟩=false:=by
 obtain ⟨lo,hi⟩:=fr
 simp only [World.frozen?,h]
 simp only [Bool.and_eq_false_iff,decide_eq_false_iff_not]
 by_cases hl:lo≤off
 ·exact Or.inr fun hh=>ho ⟨hl,hh⟩
 ·exact Or.inl hl
def R5 (cs:Array Value) (off:Nat):List Value→Array Value
 | []=>cs
 | v::vs=>R5 (cs.setIfInBounds off v) (off+1) vs
theorem Mo:∀ (vs:List Value) (cs:Array Value) (off:Nat),(R5 cs off vs).size=cs.size
 | [],_,_=>rfl
 | v::vs,cs,off=>by simp [R5,Mo vs]
theorem GaI:∀ (vs:List Value) (cs:Array Value) (off j:Nat),off+vs.length≤cs.size→
  (R5 cs off vs).getD j undef=if off≤j∧j<off+vs.length then vs.getD (j - off) undef else cs.getD j undef
 | [],cs,off,j,h=>by simp [R5]; intro a b; omega
 | v::vs,cs,off,j,h=>by
  simp only [List.length_cons] at h
  rw [R5,GaI vs _ _ _ (by simp; omega)]
  by_cases h1:off+1≤j∧j<off+1+vs.length
  ·rw [if_pos h1,if_pos (by simp; omega),show j - off=(j - (off+1))+1 by omega]
   simp [List.getD]
  ·rw [if_neg h1]
   by_cases h2:j=off
   ·subst h2
    rw [if_pos (by simp),Nat.sub_self]
    have:j<cs.size:=by omega
    simp [Array.getD,this]
   ·rw [if_neg (by simp; omega)]
    simp only [Array.getD,Array.size_setIfInBounds]
    split
    ·exact Array.getElem_setIfInBounds_ne (by assumption) (fun e=>h2 e.symm)
    ·rfl
theorem Gft {P:Program}:∀ (vs:List Value) (i:Nat) (w:World) (b off:Nat) (e:TypeId) (fr:Nat×Nat) (cs:Array Value),
  w.heap[b]?=some (.cells cs e fr)→off+i+vs.length≤cs.size→(∀ j,off+i≤j→j<off+i+vs.length→¬ (fr.1≤j∧j<fr.2))→
  (∀ v ∈ vs,v.oneCell'=true)→
  ∃ w',(storeCells ⟨b,off,none⟩ vs i).run P w=.ok () w'∧GzE w w' b e fr (R5 cs (off+i) vs)
 | [],i,w,b,off,e,fr,cs,h,_,_,_=>⟨w,rfl,⟨h,fun _ _=>rfl,rfl,rfl,rfl,rfl⟩⟩
 | v::vs,i,w,b,off,e,fr,cs,h,hlen,hfr,hone=>by
  simp only [List.length_cons] at hlen hfr
  have h0:=Gag h (off:=off+i) (by omega)
  have h1:=Gwn h (off:=off+i) (hfr (off+i) (by omega) (by omega))
  have hw:=GpV (off:=off+i) h v
  obtain ⟨w',hr,hw'⟩:=Gft (P:=P) vs (i+1) (w.setCell ⟨b,off+i,none⟩ v) b off e fr (cs.setIfInBounds (off+i) v) hw.at_ (by simp; omega)
   (fun j h1 h2=>hfr j (by omega) (by omega)) (fun x hx=>hone x (List.mem_cons_of_mem _ hx))
  refine ⟨w',?_,⟨?_,fun j hj=>(hw'.other j hj).trans (hw.other j hj),hw'.size.trans hw.size,hw'.os.trans hw.os,hw'.tape.trans hw.tape,hw'.output.trans hw.output⟩⟩
  ·simp only [storeCells,Sem.run_bind,Ko,run_store P w _ v _ (hone v (List.mem_cons_self ..)),h0,h1,Result.andThen_ok]
   simpa using hr
  ·rw [R5,show off+i+1=off+(i+1) by omega]
   exact hw'.at_
def sub (c:List AV) (o n:Nat):List AV:=(c.drop o).take n
theorem GbM {c:List AV} {o n i:Nat} (hi:i<(sub c o n).length):(sub c o n).getD i .any=c.getD (o+i) .any∧o+i<c.length∧i<n:=by
 simp only [sub,List.length_take,List.length_drop] at hi
 refine ⟨?_,by omega,by omega⟩
 simp [sub,List.getD,List.getElem?_take,show i<n by omega,List.getElem?_drop]
theorem Gpu {c:List AV} {o n:Nat} (h:o+n≤c.length):(sub c o n).length=n:=by simp [sub]; omega
def AV.cells:AV→List AV
 | .agg c=>c
 | v=>[v]
def AV.one:AV→Bool
 | .agg _ | .tup _ | .any=>false
 | _=>true
variable {μ μ':Nat→Option HY} {ro ro':Nat→Prop} {w w':World}
theorem G1.one {o:Bool} {v:AV} {x:Value} (h:G1 μ ro w o v x) (hv:v.one=true):x.oneCell'=true:=by
 cases h <;> first | rfl | cases hv
theorem G1.cells {o:Bool} {v:AV} {x:Value} (h:G1 μ ro w o v x) (hv:v≠.any):GQ μ ro w o v.cells x.cells.toList:=by
 cases h <;> simp only [AV.cells,Value.cells,GQ]
 case any=>exact absurd rfl hv
 case agg c vs hn hr=>
  exact ⟨by simpa using hn,fun i hi=>by rw [G5 vs]; exact hr i hi⟩
 all_goals refine ⟨rfl,fun i hi=>?_⟩; simp only [List.length_singleton,Nat.lt_one_iff] at hi; subst hi; simp only [List.getD_cons_zero]
 all_goals constructor
 all_goals assumption
theorem GQ.mono {o:Bool} {c:List AV} {vs:List Value} (h:GQ μ ro w o c vs) (hμ:∀ i b,μ i=some b→μ' i=some b) (hro:∀ b,ro b→ro' b)
  (hw:∀ b,ro b→w'.heap[b]?=w.heap[b]?):GQ μ' ro' w' o c vs:=⟨h.1,fun i hi=>(h.2 i hi).mono hμ hro hw⟩
theorem GQ.up {o:Bool} {c:List AV} {vs:List Value} (h:GQ μ ro w false c vs):GQ μ ro w o c vs:=⟨h.1,fun i hi=>(h.2 i hi).any_o⟩
theorem GQ.nil {o:Bool}:GQ μ ro w o [] []:=⟨rfl,fun i hi=>by simp at hi⟩
theorem GQ.cons {o:Bool} {v:AV} {c:List AV} {x:Value} {vs:List Value} (h:G1 μ ro w o v x) (hs:GQ μ ro w o c vs):GQ μ ro w o (v::c) (x::vs):=by
 refine ⟨by simp [hs.1],fun i hi=>?_⟩
 cases i with
 | zero=>simpa using h
 | succ i=>simpa using hs.2 i (by simpa using hi)
theorem GQ.head {o:Bool} {v:AV} {c:List AV} {vs:List Value} (h:GQ μ ro w o (v::c) vs):∃ x xs,vs=x::xs∧G1 μ ro w o v x∧GQ μ ro w o c xs:=by
 cases vs with
 | nil=>have:=h.1; simp at this
 | cons x xs=>
  exact ⟨x,xs,rfl,by simpa using h.2 0 (by simp),⟨by simpa using h.1,fun i hi=>by simpa using h.2 (i+1) (by simpa using hi)⟩⟩
theorem GQ.app {o:Bool} {c d:List AV} {vs xs:List Value} (h:GQ μ ro w o c vs) (k:GQ μ ro w o d xs):GQ μ ro w o (c++d) (vs++xs):=by
 refine ⟨by simp [h.1,k.1],fun i hi=>?_⟩
 simp only [List.length_append] at hi
 by_cases hc:i<c.length
 ·have:=h.2 i hc
  simpa [List.getD,List.getElem?_append_left hc,List.getElem?_append_left (show i<vs.length by rw [h.1]; exact hc)] using this
 ·have:=k.2 (i - c.length) (by omega)
  simpa [List.getD,List.getElem?_append_right (Nat.le_of_not_lt hc),List.getElem?_append_right (show vs.length≤i by rw [h.1]; omega),h.1] using this
theorem GQ.agg {o:Bool} {c:List AV} {vs:List Value} (h:GQ μ ro w o c vs):G1 μ ro w o (.agg c) (.agg vs.toArray):=
 .agg (by simpa using h.1) fun i hi=>by have:=h.2 i hi; rwa [← G5]
theorem GQ.tup {o:Bool} {c:List AV} {vs:List Value} (h:GQ μ ro w o c vs):G1 μ ro w o (.tup c) (.tuple vs.toArray):=
 .tup (by simpa using h.1) fun i hi=>by have:=h.2 i hi; rwa [← G5]
theorem G1.agg_inv {o:Bool} {c:List AV} {x:Value} (h:G1 μ ro w o (.agg c) x):∃ vs:List Value,x=.agg vs.toArray∧GQ μ ro w o c vs:=by
 cases h with
 | @agg _ _ vs hn hr=>exact ⟨vs.toList,by rw [Array.toArray_toList],by simpa using hn,fun i hi=>by rw [G5 vs]; exact hr i hi⟩
theorem G1.tup_inv {o:Bool} {c:List AV} {x:Value} (h:G1 μ ro w o (.tup c) x):∃ vs:List Value,x=.tuple vs.toArray∧GQ μ ro w o c vs:=by
 cases h with
 | @tup _ _ vs hn hr=>exact ⟨vs.toList,by rw [Array.toArray_toList],by simpa using hn,fun i hi=>by rw [G5 vs]; exact hr i hi⟩
theorem GQ.sub {o:Bool} {c:List AV} {vs:List Value} (h:GQ μ ro w o c vs) (a n:Nat):GQ μ ro w o (sub c a n) ((vs.drop a).take n):=by
 refine ⟨by simp [Av.sub,h.1],fun i hi=>?_⟩
 obtain ⟨h1,h2,h3⟩:=GbM hi
 rw [h1]
 have:=h.2 (a+i) h2
 simpa [List.getD,List.getElem?_take,h3,List.getElem?_drop] using this
theorem Y9 {P:Program} {b off n:Nat} {f:Nat→Value} (h:∀ j,j<n→w.cell? ⟨b,off+j,none⟩=some (f j)):
  (loadCells ⟨b,off,none⟩ n).run P w=.ok ((List.range n).map f).toArray w:=
 run_loadCells w _ n f fun j hj=>by rw [Ko]; exact h j hj
theorem GwQ {P:Program} {t:TypeId} {d:TypeDesc} {i:TypeInfo} (hu:P.underlying t=some d) (hi:P.info? t=some i) {b off:Nat} {f:Nat→Value}
  (h:∀ j,j<(if Ru d then i.size else 1)→w.cell? ⟨b,off+j,none⟩=some (f j)):
  (loadVar t ⟨b,off,none⟩).run P w=.ok (if Ru d then .agg ((List.range i.size).map f).toArray else f 0) w:=by
 simp only [loadVar,Sem.run_bind,Gn8 hu,Result.andThen_ok]
 by_cases ha:Ru d=true
 ·simp only [ha,if_true] at h ⊢
  simp [Hy hi,Y9 h,Result.andThen]
 ·simp only [Bool.not_eq_true] at ha
  simp only [ha] at h ⊢
  have:=h 0 (by simp)
  simp at this ⊢
  simp [this]
theorem GbF {o:Bool} {c:List AV} {f:Nat→Value} (h:∀ i,i<c.length→G1 μ ro w o (c.getD i .any) (f i)):GQ μ ro w o c ((List.range c.length).map f):=by
 refine ⟨by simp,fun i hi=>?_⟩
 have:=h i hi
 simpa [List.getD,hi] using this
end
noncomputable section
open Go.RowKit
def KX:List Prop→Prop
 | []=>True
 | [p]=>p
 | p::q::ps=>p∧KX (q::ps)
theorem GtW {p:Prop} {ps:List Prop}:KX (p::ps)↔p∧KX ps:=by
 cases ps <;> simp [KX]
theorem VH:∀ {p q:List Prop},KX (p++q)↔KX p∧KX q
 | [],q=>by simp [KX]
 | a::p,q=>by simp [GtW,VH,and_assoc]
abbrev W (α:Type):Type:=Option (α×List Prop)
namespace W
variable {α β:Type}
def pure (a:α):W α:=some (a,[])
def fail:W α:=none
def bind (m:W α) (f:α→W β):W β:=
 match m with
 | none=>none
 | some (a,p)=>
  match f a with
  | none=>none
  | some (b,q)=>
   match p with
   | []=>some (b,q)
   | p=>some (b,p++q)
def of (o:Option α):W α:=match o with | some a=>some (a,[]) | none=>none
def req (sy:Bool) (p:Prop) [Decidable p]:W Unit:=match sy with | true=>some ((),[p]) | false=>if p then some ((),[]) else none
def sat (m:W α) (Q:α→Prop):Prop:=∀ a ps,m=some (a,ps)→KX ps→Q a
theorem sat_pure {a:α} {Q:α→Prop} (h:Q a):(pure a).sat Q:=by
 intro b ps e _; simp only [pure,sJ,Prod.mk.injEq] at e; exact e.1 ▸ h
theorem sat_fail {Q:α→Prop}:(fail:W α).sat Q:=by intro b ps e; cases e
theorem sat_bind {m:W α} {f:α→W β} {Q:α→Prop} {R:β→Prop} (hm:m.sat Q) (hf:∀ a,Q a→(f a).sat R):(m.bind f).sat R:=by
 intro b ps e h
 unfold bind at e
 cases hm':m with
 | none=>rw [hm'] at e; cases e
 | some x=>
  obtain ⟨a,p⟩:=x
  rw [hm'] at e
  simp only at e
  cases hf':f a with
  | none=>rw [hf'] at e; cases e
  | some y=>
   obtain ⟨b',q⟩:=y
   rw [hf'] at e
   have key:b'=b∧ps=p++q:=by
    cases p with
    | nil=>simp only [sJ,Prod.mk.injEq] at e; exact ⟨e.1,e.2.symm⟩
    | cons x p=>simp only [sJ,Prod.mk.injEq] at e; exact ⟨e.1,e.2.symm⟩
   obtain ⟨rfl,rfl⟩:=key
   obtain ⟨h1,h2⟩:=VH.1 h
   exact hf a (hm a p hm' h1) b' q hf' h2
theorem sat_of {o:Option α} {Q:α→Prop} (h:∀ a,o=some a→Q a):(of o).sat Q:=by
 intro b ps e _
 cases o with
 | none=>cases e
 | some a=>simp only [of,sJ,Prod.mk.injEq] at e; exact e.1 ▸ h a rfl
theorem sat_req {sy:Bool} {p:Prop} [Decidable p]:(req sy p).sat fun _=>p:=by
 intro b ps e h
 unfold req at e
 cases sy
 ·simp only at e
  split at e
  ·assumption
  ·cases e
 ·simp only [sJ,Prod.mk.injEq] at e
  obtain ⟨_,rfl⟩:=e
  exact h
theorem sat_mono {m:W α} {Q R:α→Prop} (h:m.sat Q) (k:∀ a,Q a→R a):m.sat R:=fun a ps e ho=>k a (h a ps e ho)
def owe (p:Prop):W Unit:=some ((),[p])
theorem sat_owe {p:Prop}:(owe p).sat fun _=>p:=by
 intro b ps e h
 simp only [owe,sJ,Prod.mk.injEq] at e
 obtain ⟨_,rfl⟩:=e
 exact h
end W
def GvH {α:Type} (z:Int) (k:Int→α):α:=
 match z with
 | .ofNat 0=>k 0
 | .ofNat (m+1)=>k (.ofNat (m+1))
 | .negSucc 0=>k (.negSucc 0)
 | .negSucc (m+1)=>k (.negSucc (m+1))
theorem GsS {α:Type} (z:Int) (k:Int→α):GvH z k=k z:=by
 unfold GvH; split <;> rfl
inductive Hu where
 | c
 | a
 | w
 | b (β:Bool)
 | i (j:Nat)
 | v (vs:List AV)
 | s (l h:Nat)
 | m (l c:Nat)
 | by (bs:List UInt8)
 | ap (k:Nat)
 | st
def Hu.sy:Hu→Bool
 | .c=>false
 | _=>true
def KZ (P:Program) (s:Sem Value) (μ:Nat→Option HY) (ro:Nat→Prop) (w:World) (n:Nat) (v:AV) (h':Hp):Prop:=
 ∃ v' w' μ',s.run P w=.ok v' w'∧VG n μ μ'∧G1 μ' ro w' true v v'∧GV μ' ro h' w'∧Fr μ ro w μ' w'
variable {P:Program} {μ μ':Nat→Option HY} {ro ro':Nat→Prop} {w w':World}
theorem KZ.of_pure {s:Sem Value} {v:AV} {v':Value} {h:Hp} (hr:s.run P w=.ok v' w) (hv:G1 μ ro w true v v') (hh:GV μ ro h w):KZ P s μ ro w h.nx v h:=
 ⟨v',w,μ,hr,.refl _ _,hv,hh,Fr.refl _ _ _⟩
theorem Gbj (w:World) (o:Obj):(w.alloc o).heap[w.heap.size]?=some o:=by
 show (w.heap.push o)[w.heap.size]?=_
 rw [Array.getElem?_push,if_pos rfl]
theorem GoY {h:Hp} {cs:Array Value} {e:TypeId} {k:Hb} (hh:GV μ ro h w) (he:k.e=e) (hl:k.c.length≤cs.size) (hx:k.ext=false→cs.size=k.c.length)
  (hc:∀ i,i<k.c.length→G1 μ ro w (!k.pl) (k.c.getD i .any) (cs.getD i undef)):
  GV (upd μ h.nx (w.heap.size,cs.size)) ro (h.new (.blk k)) (w.alloc (.cells cs e))∧Fr μ ro w (upd μ h.nx (w.heap.size,cs.size)) (w.alloc (.cells cs e)):=by
 refine ⟨hh.new _ _ _ ?_,Fr.alloc hh _ _⟩
 subst he
 refine ⟨⟨cs,(0,0),Gbj w _,rfl,hl,hx,fun i h1 h2=>absurd h2 (Nat.not_lt_zero i),fun i hi=>?_⟩⟩
 exact (hc i hi).mono (Gh1 hh _) (fun _ h=>h) (fun b hb=>Below.heap_alloc _ _ _ (hh.old b hb))
theorem KZ.of_new {s:Sem Value} {h:Hp} {cs:Array Value} {e:TypeId} {k:Hb} {v:AV} {v':Value} (hh:GV μ ro h w)
  (hr:s.run P w=.ok v' (w.alloc (.cells cs e))) (he:k.e=e) (hl:k.c.length≤cs.size) (hx:k.ext=false→cs.size=k.c.length) (hc:∀ i,i<k.c.length→G1 μ ro w (!k.pl) (k.c.getD i .any) (cs.getD i undef))
  (hv:G1 (upd μ h.nx (w.heap.size,cs.size)) ro (w.alloc (.cells cs e)) true v v'):KZ P s μ ro w h.nx v (h.new (.blk k)):=
 let ⟨h1,h2⟩:=GoY hh he hl hx hc
 ⟨v',_,_,hr,KJ _ _,hv,h1,h2⟩
/-! ### integers -/
theorem Gzv (k:IntKind) (x:Int) (h:k.min≤x∧x≤k.max):k.wrap x=x:=by
 cases k <;> simp only [IntKind.min,IntKind.max,IntKind.signed,IntKind.bits] at h <;> (simp at h)
 ·exact IntWalk.i8_in x h
 ·exact IntWalk.i16_in x h
 ·exact IntWalk.i32_in x h
 ·exact IntWalk.i64_in x h
 ·exact IntWalk.u8_in x h
 ·exact IntWalk.u16_in x h
 ·exact IntWalk.u32_in x h
 ·exact IntWalk.u64_in x h
def Goj (hn:Hu) (k:IntKind) (x:Int):W AV:=
 match hn with
 | .w=>some (.int k x,[k.min≤x∧x≤k.max])
 | .c=>GvH (k.wrap x) fun z=>some (.int k z,[])
 | _=>some (.int k (k.wrap x),[])
theorem Qn {hn:Hu} {k:IntKind} {x:Int}:(Goj hn k x).sat fun v=>v=.int k (k.wrap x):=by
 intro v ps e h
 unfold Goj at e
 split at e
 ·simp only [sJ,Prod.mk.injEq] at e
  obtain ⟨rfl,rfl⟩:=e
  rw [Gzv k x h]
 ·rw [GsS] at e
  simp only [sJ,Prod.mk.injEq] at e
  exact e.1.symm
 ·simp only [sJ,Prod.mk.injEq] at e
  exact e.1.symm
def Gsm (hn:Hu) (k:IntKind) (x:Int):W AV:=
 match hn with
 | .c=>GvH x fun z=>some (.int k z,[])
 | _=>some (.int k x,[])
theorem Gd1 {hn:Hu} {k:IntKind} {x:Int}:(Gsm hn k x).sat fun v=>v=.int k x:=by
 intro v ps e h
 unfold Gsm at e
 split at e
 ·rw [GsS] at e
  simp only [sJ,Prod.mk.injEq] at e
  exact e.1.symm
 ·simp only [sJ,Prod.mk.injEq] at e
  exact e.1.symm
def Zu (op:BinOp) (k:IntKind) (x y:Int):Option Int:=
 match op with
 | .and=>some (BitVec.ofInt k.bits x &&& BitVec.ofInt k.bits y).toNat
 | .or=>some (BitVec.ofInt k.bits x ||| BitVec.ofInt k.bits y).toNat
 | .xor=>some (BitVec.ofInt k.bits x ^^^ BitVec.ofInt k.bits y).toNat
 | .andNot=>some (BitVec.ofInt k.bits x &&& ~~~(BitVec.ofInt k.bits y)).toNat
 | _=>none
def GxM (op:BinOp) (x y:Int):Option Bool:=
 match op with
 | .eql=>some (x==y)
 | .neq=>some (x != y)
 | .lss=>some (decide (x<y))
 | .leq=>some (decide (x≤y))
 | .gtr=>some (decide (x>y))
 | .geq=>some (decide (x≥y))
 | _=>none
def Gn1 (hn:Hu) (op:BinOp) (k:IntKind) (x y:Int):W AV:=
 match op with
 | .add=>Goj hn k (x+y)
 | .sub=>Goj hn k (x - y)
 | .mul=>Goj hn k (x*y)
 | .quo=>(W.req hn.sy (y≠0)).bind fun _=>Goj hn k (x.tdiv y)
 | .rem=>(W.req hn.sy (y≠0)).bind fun _=>Gsm hn k (x.tmod y)
 | .shl=>(W.req hn.sy (0≤y)).bind fun _=>Goj hn k (x*2 ^ (min y.toNat k.bits))
 | .shr=>(W.req hn.sy (0≤y)).bind fun _=>Gsm hn k (x.fdiv (2 ^ (min y.toNat k.bits)))
 | .and | .or | .xor | .andNot=>(W.of (Zu op k x y)).bind fun z=>Goj hn k z
 | op=>(W.of (GxM op x y)).bind fun b=>W.pure (.bool b)
theorem Gge {hn:Hu} {op:BinOp} {k k':IntKind} {x y:Int} (t:TypeId) (hk:(match op with | .shl | .shr=>true | _=>false)=true∨k=k'):
  (Gn1 hn op k x y).sat fun v=>∃ v',(∀ w,(binOp op t (.int k x) (.int k' y)).run P w=.ok v' w)∧∀ μ ro w o,G1 μ ro w o v v':=by
 have fin:∀ {v:AV} {z:Int},v=.int k z→∀ μ ro w o,G1 μ ro w o v (.int k z):=fun h μ ro w o=>by subst h; exact .int
 cases op <;> simp only [Gn1]
 case add=>
  obtain rfl:=hk.resolve_left (by simp)
  exact W.sat_mono Qn fun v hv=>⟨_,fun w=>by simp [binOp,Op.intArith],fin hv⟩
 case sub=>
  obtain rfl:=hk.resolve_left (by simp)
  exact W.sat_mono Qn fun v hv=>⟨_,fun w=>by simp [binOp,Op.intArith],fin hv⟩
 case mul=>
  obtain rfl:=hk.resolve_left (by simp)
  exact W.sat_mono Qn fun v hv=>⟨_,fun w=>by simp [binOp,Op.intArith],fin hv⟩
 case quo=>
  obtain rfl:=hk.resolve_left (by simp)
  exact W.sat_bind W.sat_req fun _ hy=>W.sat_mono Qn fun v hv=>⟨_,fun w=>by simp [binOp,Op.intDiv,hy],fin hv⟩
 case rem=>
  obtain rfl:=hk.resolve_left (by simp)
  exact W.sat_bind W.sat_req fun _ hy=>W.sat_mono Gd1 fun v hv=>⟨_,fun w=>by simp [binOp,Op.intDiv,hy],fin hv⟩
 case shl=>
  exact W.sat_bind W.sat_req fun _ hy=>W.sat_mono Qn fun v hv=>⟨_,fun w=>by simp [binOp,Op.shift,Int.not_lt.2 hy],fin hv⟩
 case shr=>
  exact W.sat_bind W.sat_req fun _ hy=>W.sat_mono Gd1 fun v hv=>⟨_,fun w=>by simp [binOp,Op.shift,Int.not_lt.2 hy],fin hv⟩
 case and=>
  obtain rfl:=hk.resolve_left (by simp)
  exact W.sat_bind (W.sat_of (Q:=fun z=>Zu .and k x y=some z) fun z hz=>hz) fun z hz=>W.sat_mono Qn fun v hv=>⟨_,fun w=>by simp only [Zu,sJ] at hz; subst hz; simp [binOp,Op.intBits],fin hv⟩
 case or=>
  obtain rfl:=hk.resolve_left (by simp)
  exact W.sat_bind (W.sat_of (Q:=fun z=>Zu .or k x y=some z) fun z hz=>hz) fun z hz=>W.sat_mono Qn fun v hv=>⟨_,fun w=>by simp only [Zu,sJ] at hz; subst hz; simp [binOp,Op.intBits],fin hv⟩
 case xor=>
  obtain rfl:=hk.resolve_left (by simp)
  exact W.sat_bind (W.sat_of (Q:=fun z=>Zu .xor k x y=some z) fun z hz=>hz) fun z hz=>W.sat_mono Qn fun v hv=>⟨_,fun w=>by simp only [Zu,sJ] at hz; subst hz; simp [binOp,Op.intBits],fin hv⟩
 case andNot=>
  obtain rfl:=hk.resolve_left (by simp)
  exact W.sat_bind (W.sat_of (Q:=fun z=>Zu .andNot k x y=some z) fun z hz=>hz) fun z hz=>W.sat_mono Qn fun v hv=>⟨_,fun w=>by simp only [Zu,sJ] at hz; subst hz; simp [binOp,Op.intBits],fin hv⟩
 all_goals
  obtain rfl:=hk.resolve_left (by simp)
  refine W.sat_bind (W.sat_of (Q:=fun b=>GxM _ x y=some b) fun b hb=>hb) fun b hb=>W.sat_pure ⟨.bool b,fun w=>?_,fun _ _ _ _=>.bool⟩
  simp only [GxM,sJ] at hb
  subst hb
  simp [binOp,Op.intCmp]
end
noncomputable section
open Go.RowKit
variable {P:Program} {μ μ':Nat→Option HY} {ro ro':Nat→Prop} {w w':World}
def GkE (P:Program) (s:Sem Value) (v:AV):Prop:=∃ v',(∀ w,s.run P w=.ok v' w)∧∀ μ ro w o,G1 μ ro w o v v'
/-! ### strings -/
def GzR (hn:Hu) (op:BinOp) (x y:List UInt8):W AV:=
 match op with
 | .add=>(W.req hn.sy (x.length+y.length≤9223372036854775807)).bind fun _=>W.pure (.str (x++y))
 | .eql=>W.pure (.bool (x==y))
 | .neq=>W.pure (.bool !(x==y))
 | .lss=>W.pure (.bool (Op.bytesLess x y))
 | .leq=>W.pure (.bool (Op.bytesLess x y||x==y))
 | .gtr=>W.pure (.bool !(Op.bytesLess x y||x==y))
 | .geq=>W.pure (.bool !(Op.bytesLess x y))
 | _=>W.fail
theorem RD (b:ByteArray):b.data.toList.length=b.size:=by cases b; rfl
theorem Gxv {hn:Hu} {op:BinOp} {t:TypeId} {x y:List UInt8} {a b:ByteArray} (ha:a.data.toList=x) (hb:b.data.toList=y):
  (GzR hn op x y).sat fun v=>∃ v',(∀ w,(binOp op t (.string a) (.string b)).run P w=.ok v' w)∧∀ μ ro w o,G1 μ ro w o v v':=by
 subst ha; subst hb
 cases op <;> simp only [GzR]
 case add=>
  refine W.sat_bind W.sat_req fun _ h=>W.sat_pure ⟨.string (a++b),fun w=>?_,fun _ _ _ _=>.str (by simp)⟩
  rw [RD,RD] at h
  have:¬ (((a.size+b.size:Nat):Int)>IntKind.i64.max):=by
   simp [IntKind.max,IntKind.signed,IntKind.bits]; omega
  simp only [binOp,Op.stringOp,if_neg this]
  rfl
 all_goals first
  | exact W.sat_fail
  | exact W.sat_pure ⟨.bool _,fun w=>by simp [binOp,Op.stringOp,ByteArray.toList_eq],fun _ _ _ _=>.bool⟩
/-! ### parts of values -/
def Gsq (ag:Bool) (c:List AV):Option AV:=
 match ag with
 | true=>some (.agg c)
 | false=>match c with | [v]=>some v | _=>none
def Gp7 (P:Program) (t:TypeId) (c:List AV) (off:Nat):Option AV:=
 match P.underlying t,Ug P t with
 | some d,some n=>
  match Ru d with
  | true=>match Nat.ble (off+n) c.length with | true=>some (.agg (sub c off n)) | false=>none
  | false=>c[off]?
 | _,_=>none
theorem Gig {t:TypeId} {c:List AV} {off:Nat} {v:AV} {vs:List Value} {o:Bool} (h:Gp7 P t c off=some v) (hc:GQ μ ro w o c vs):
  ∃ v',(∀ w,(part t vs.toArray off).run P w=.ok v' w)∧G1 μ ro w o v v':=by
 unfold Gp7 Ug at h
 split at h
 ·rename_i d n hd hn
  cases hi:P.info? t with
  | none=>rw [hi] at hn; cases hn
  | some i=>
   rw [hi] at hn
   simp only [Option.map_some,sJ] at hn
   subst hn
   split at h
   ·rename_i ha
    split at h
    ·rename_i hl
     simp only [sJ] at h
     subst h
     have hl':=nB hl
     refine ⟨.agg (vs.toArray.extract off (off+i.size)),fun w=>?_,?_⟩
     ·simp [part,Gn8 hd,ha,Hy hi,Result.andThen]
     ·have:=(hc.sub off i.size).agg
      have e:(List.take i.size (List.drop off vs)).toArray=vs.toArray.extract off (off+i.size):=by
       simp [List.extract_eq_take_drop]
      rwa [e] at this
    ·cases h
   ·rename_i ha
    have hlt:off<c.length:=(List.getElem?_eq_some_iff.1 h).1
    have hv:=hc.2 off hlt
    have e:c.getD off .any=v:=by simp [List.getD,h]
    rw [e] at hv
    refine ⟨vs.getD off undef,fun w=>?_,hv⟩
    have hg:vs.toArray[off]?=some (vs.getD off undef):=by
     rw [List.getElem?_toArray]; exact Gin vs off undef (by rw [hc.1]; exact hlt)
    simp only [part,Sem.run_bind,Gn8 hd,ha,Result.andThen_ok]
    simp [hg]
 ·cases h
/-! ### equality that looks at no memory -/
def GyH (P:Program) (t:TypeId) (x y:AV):Option Bool:=
 match P.underlying t,x,y with
 | some .bool,.bool a,.bool b=>some (a==b)
 | some (.pointer _),.nilp,.nilp=>some true
 | some (.pointer _),.nilp,.ptr _ _=>some false
 | some (.pointer _),.ptr _ _,.nilp=>some false
 | some (.pointer _),.rop _ _,.nilp=>some false
 | some (.pointer _),.nilp,.rop _ _=>some false
 | some (.slice _),.nils,.nils=>some true
 | some (.slice _),.nils,.sl ..=>some false
 | some (.slice _),.nils,.lst (_::_) _=>some false
 | some (.slice _),.sl ..,.nils=>some false
 | some (.slice _),.nils,.nen=>some false
 | some (.slice _),.nen,.nils=>some false
 | some (.slice _),.lst (_::_) _,.nils=>some false
 | some (.func _ _ _),.nilf,.nilf=>some true
 | some (.func _ _ _),.nilf,.fn ..=>some false
 | some (.func _ _ _),.fn ..,.nilf=>some false
 | some (.map _ _),.nilm,.nilm=>some true
 | some (.map _ _),.nilm,.mapr _=>some false
 | some (.map _ _),.mapr _,.nilm=>some false
 | some (.interface _),.nili,.ifc ..=>some false
 | some (.interface _),.ifc ..,.nili=>some false
 | _,_,_=>none
theorem Gsh {t:TypeId} {x y:AV} {b:Bool} {a c:Value} {o o':Bool} (h:GyH P t x y=some b) (hx:G1 μ ro w o x a) (hy:G1 μ ro w o' y c):
  (∀ d w,(Op.equalIn (d+1) t a c).run P w=.ok b w)∧(∀ op p q w,(eqGuard op t p q a c).run P w=.ok () w)∧
  (∀ w,(binOp .eql t a c).run P w=.ok (.bool b) w)∧(∀ w,(binOp .neq t a c).run P w=.ok (.bool !b) w):=by
 have key:(∀ d w,(Op.equalIn (d+1) t a c).run P w=.ok b w)∧(∀ op p q w,(eqGuard op t p q a c).run P w=.ok () w)∧
   binOp .eql t a c=(do pure (.bool (← Op.equal t a c)):Sem Value)∧binOp .neq t a c=(do pure (.bool (!(← Op.equal t a c))):Sem Value):=by
  unfold GyH at h
  split at h <;> simp only [sJ,reduceCtorEq] at h <;> subst h <;> rename_i hu <;> cases hx <;> cases hy <;>
   exact ⟨fun d w=>by simp only [Op.equalIn,Sem.run_bind,GB hu,Result.andThen_ok]; rfl,fun op p q w=>by cases op <;> rfl,rfl,rfl⟩
 obtain ⟨h1,h2,h3,h4⟩:=key
 have h1':∀ w,(Op.equal t a c).run P w=.ok b w:=h1 9999
 exact ⟨h1,h2,fun w=>by rw [h3]; simp [h1',Result.andThen],fun w=>by rw [h4]; simp [h1',Result.andThen]⟩
def Gp3 (P:Program) (go:TypeId→AV→AV→Option Bool) (xs ys:List AV):List Field→Option Bool
 | []=>some true
 | f::fs=>
  if f.name ≠ "_" then
   match Gp7 P f.type xs f.offset,Gp7 P f.type ys f.offset with
   | some a,some b=>
    match go f.type a b with
    | some r=>match Gp3 P go xs ys fs with | some q=>some (r&&q) | none=>none
    | none=>none
   | _,_=>none
  else Gp3 P go xs ys fs
def GyI (P:Program):Nat→TypeId→AV→AV→Option Bool
 | 0,_,_,_=>none
 | d+1,t,x,y=>
  match x,y with
  | .agg xs,.agg ys=>match P.underlying t,P.stoodInHeld t with | some (.struct fs),false=>Gp3 P (GyI P d) xs ys fs.toList | _,_=>none
  | .int k a,.int k' b=>match P.underlying t,decide (k=k') with | some (.int _),true=>some (a==b) | _,_=>none
  | .str a,.str b=>match P.underlying t with | some .string=>some (a==b) | _=>none
  | x,y=>GyH P t x y
theorem Gma {go:TypeId→AV→AV→Option Bool} {e:Nat} {o o':Bool} (hgo:∀ t x y b a c,go t x y=some b→G1 μ ro w o x a→G1 μ ro w o' y c→∀ w1,(Op.equalIn e t a c).run P w1=.ok b w1) {xs ys:List AV} {vs us:List Value}
  (hx:GQ μ ro w o xs vs) (hy:GQ μ ro w o' ys us):∀ (l:List Field) (b:Bool),Gp3 P go xs ys l=some b→∀ w1,(Op.eqFields e vs.toArray us.toArray l).run P w1=.ok b w1
 | [],b,h,w1=>by simp only [Gp3,sJ] at h; subst h; rfl
 | f::fs,b,h,w1=>by
  simp only [Gp3] at h
  simp only [Op.eqFields]
  by_cases hn:f.name ≠ "_"
  ·rw [if_pos hn] at h ⊢
   split at h
   ·rename_i a c ha hc
    split at h
    ·rename_i r hr
     split at h
     ·rename_i q hq
      simp only [sJ] at h
      subst h
      obtain ⟨a',ha1,ha2⟩:=Gig ha hx
      obtain ⟨c',hc1,hc2⟩:=Gig hc hy
      simp only [Sem.run_bind,ha1,hc1,Result.andThen_ok,hgo _ _ _ _ _ _ hr ha2 hc2]
      cases r with
      | false=>rfl
      | true=>
       have:=Gma hgo hx hy fs q hq w1
       simpa using this
     ·cases h
    ·cases h
   ·cases h
  ·rw [if_neg hn] at h ⊢
   exact Gma hgo hx hy fs b h w1
theorem Gd2 {a b:ByteArray}:(a==b)=(a.data.toList==b.data.toList):=by
 obtain ⟨⟨x⟩⟩:=a
 obtain ⟨⟨y⟩⟩:=b
 show ((⟨x⟩:Array UInt8)==⟨y⟩)=(x==y)
 simp
theorem Gsi:∀ (d:Nat) {o o':Bool} (t:TypeId) (x y:AV) (b:Bool) (a c:Value),GyI P d t x y=some b→G1 μ ro w o x a→G1 μ ro w o' y c→∀ (k:Nat) (w1:World),(Op.equalIn (d+k) t a c).run P w1=.ok b w1
 | 0,o,o',t,x,y,b,a,c,h,_,_=>by cases h
 | d+1,o,o',t,x,y,b,a,c,h,hx,hy=>by
  intro k w1
  simp only [GyI] at h
  rw [show d+1+k=(d+k)+1 by omega]
  split at h
  ·obtain ⟨vs,rfl,hvs⟩:=hx.agg_inv
   obtain ⟨us,rfl,hus⟩:=hy.agg_inv
   split at h
   ·rename_i fs hu hs
    have hf:P.fieldsOf t=fs:=by unfold Program.fieldsOf; rw [hu]
    rw [run_equalIn_struct w1 (d+k) t _ _ (by rw [hf]; exact hu) hs,hf]
    exact Gma (fun t x y b a c h1 h2 h3 w2=>Gsi d t x y b a c h1 h2 h3 k w2) hvs hus fs.toList b h w1
   ·cases h
  ·cases hx; cases hy
   split at h
   ·rename_i hu hk
    simp only [sJ] at h
    subst h
    have:=of_decide_eq_true hk
    subst this
    simp [Op.equalIn,GB hu]
   ·cases h
  ·cases hx; cases hy
   rename_i a' ha b' hb
   split at h
   ·rename_i hu
    simp only [sJ] at h
    subst h; subst ha; subst hb
    simp [Op.equalIn,GB hu,Gd2]
   ·cases h
  ·have:=(Gsh h hx hy).1 (d+k)
   exact this w1
def aEq (P:Program) (t:TypeId) (x y:AV):Option Bool:=
 match x,y with
 | .agg _,.agg _=>match P.eqGuardType P.depth t with | false=>GyI P 30 t x y | true=>none
 | x,y=>GyH P t x y
theorem Gvu {t:TypeId} {x y:AV} {b:Bool} {a c:Value} {o o':Bool} (h:aEq P t x y=some b) (hx:G1 μ ro w o x a) (hy:G1 μ ro w o' y c):
  (∀ op p q w,(eqGuard op t p q a c).run P w=.ok () w)∧
  (∀ w,(binOp .eql t a c).run P w=.ok (.bool b) w)∧(∀ w,(binOp .neq t a c).run P w=.ok (.bool !b) w):=by
 unfold aEq at h
 split at h
 ·split at h
  ·rename_i hg
   have h1:=Gsi 30 t _ _ b a c h hx hy 9970
   obtain ⟨vs,rfl,hvs⟩:=hx.agg_inv
   obtain ⟨us,rfl,hus⟩:=hy.agg_inv
   refine ⟨fun op p q w=>run_eqGuard_agg w op t p q _ _ hg,fun w=>?_,fun w=>?_⟩
   ·rw [run_eql_struct w,h1]; rfl
   ·rw [run_neq_struct w,h1]; rfl
  ·cases h
 ·exact (Gsh h hx hy).2
def GzN (P:Program) (hn:Hu) (op:BinOp) (t:TypeId) (x y:AV):W AV:=
 match x,y with
 | .int k a,.int k' b=>
  match op with
  | .shl | .shr=>Gn1 hn op k a b
  | op=>match decide (k=k') with | true=>Gn1 hn op k a b | false=>W.fail
 | .str a,.str b=>GzR hn op a b
 | x,y=>
  match op with
  | .eql=>(W.of (aEq P t x y)).bind fun b=>W.pure (.bool b)
  | .neq=>(W.of (aEq P t x y)).bind fun b=>W.pure (.bool !b)
  | _=>W.fail
theorem Gxg {hn:Hu} {op:BinOp} {t:TypeId} {x y:AV} {a c:Value} {o o':Bool} {p q:Operand} (hx:G1 μ ro w o x a) (hy:G1 μ ro w o' y c):
  (GzN P hn op t x y).sat fun v=>GkE P (do eqGuard op t p q a c; binOp op t a c) v:=by
 unfold GzN
 split
 ·cases hx; cases hy
  rename_i k a k' b
  have hg:∀ w,(eqGuard op t p q (.int k a) (.int k' b)).run P w=.ok () w:=fun w=>by cases op <;> rfl
  have lift:∀ {v:AV},(∃ v',(∀ w,(binOp op t (.int k a) (.int k' b)).run P w=.ok v' w)∧∀ μ ro w o,G1 μ ro w o v v')→
    GkE P (do eqGuard op t p q (.int k a) (.int k' b); binOp op t (.int k a) (.int k' b)) v:=fun ⟨v',h1,h2⟩=>⟨v',fun w=>by simp [hg,h1,Result.andThen],h2⟩
  split
  ·exact W.sat_mono (Gge (P:=P) (k':=k') t (.inl rfl)) fun v hv=>lift hv
  ·exact W.sat_mono (Gge (P:=P) (k':=k') t (.inl rfl)) fun v hv=>lift hv
  ·split
   ·rename_i hk
    exact W.sat_mono (Gge (P:=P) (k':=k') t (.inr (by simpa using hk))) fun v hv=>lift hv
   ·exact W.sat_fail
 ·rename_i a b
  cases hx; cases hy
  rename_i a' ha b' hb
  have hg:∀ w,(eqGuard op t p q (.string a') (.string b')).run P w=.ok () w:=fun w=>by cases op <;> rfl
  exact W.sat_mono (Gxv (P:=P) (t:=t) ha hb) fun v ⟨v',h1,h2⟩=>⟨v',fun w=>by simp [hg,h1,Result.andThen],h2⟩
 ·split
  ·refine W.sat_bind (W.sat_of (Q:=fun b=>aEq P t x y=some b) fun b hb=>hb) fun b hb=>W.sat_pure ?_
   obtain ⟨h2,h3,_⟩:=Gvu hb hx hy
   exact ⟨.bool b,fun w=>by simp [h2,h3,Result.andThen],fun _ _ _ _=>.bool⟩
  ·refine W.sat_bind (W.sat_of (Q:=fun b=>aEq P t x y=some b) fun b hb=>hb) fun b hb=>W.sat_pure ?_
   obtain ⟨h2,_,h4⟩:=Gvu hb hx hy
   exact ⟨.bool !b,fun w=>by simp [h2,h4,Result.andThen],fun _ _ _ _=>.bool⟩
  ·exact W.sat_fail
def aUn (hn:Hu) (op:UnOp) (x:AV):W AV:=
 match op,x with
 | .neg,.int k n=>Goj hn k (0 - n)
 | .xor,.int k n=>(W.of (Zu .xor k (if k.signed then -1 else k.max) n)).bind fun z=>Goj hn k z
 | .not,.bool b=>W.pure (.bool !b)
 | _,_=>W.fail
theorem GyL {hn:Hu} {op:UnOp} {x:AV} {a:Value} {o:Bool} (hx:G1 μ ro w o x a):(aUn hn op x).sat fun v=>GkE P (Op.unary op a) v:=by
 unfold aUn
 split
 ·cases hx
  exact W.sat_mono Qn fun v hv=>⟨.int _ _,fun w=>rfl,fun _ _ _ _=>by subst hv; exact .int⟩
 ·cases hx
  refine W.sat_bind (W.sat_of (Q:=fun z=>Zu .xor _ _ _=some z) fun z hz=>hz) fun z hz=>W.sat_mono Qn fun v hv=>⟨_,fun w=>?_,fun _ _ _ _=>by subst hv; exact .int⟩
  simp only [Zu,sJ] at hz
  subst hz
  simp [Op.unary,Op.intBits]
 ·cases hx
  exact W.sat_pure ⟨_,fun w=>rfl,fun _ _ _ _=>.bool⟩
 ·exact W.sat_fail
def GqU (P:Program) (t:TypeId) (x:AV) (f:Nat):Option AV:=
 match P.underlying t,x with
 | some (.struct fs),.agg c=>match fs[f]? with | some g=>Gp7 P g.type c g.offset | none=>none
 | _,_=>none
theorem GtI {t:TypeId} {x:AV} {a:Value} {f:Nat} {v:AV} {o:Bool} (h:GqU P t x f=some v) (hx:G1 μ ro w o x a):
  ∃ v',(∀ w,(Instr.field t a f).run P w=.ok v' w)∧G1 μ ro w o v v':=by
 unfold GqU at h
 split at h
 ·rename_i fs c hu
  obtain ⟨vs,rfl,hc⟩:=hx.agg_inv
  cases hf:fs[f]? with
  | none=>rw [hf] at h; cases h
  | some g=>
   rw [hf] at h
   obtain ⟨v',h1,h2⟩:=Gig h hc
   exact ⟨v',fun w=>by simp [Instr.field,GB hu,hf,asAgg,h1,Result.andThen],h2⟩
 ·cases h
def GqV (hn:Hu) (x:Int) (n:Nat):W Nat:=
 match hn with
 | .i j=>some (j,[x=(j:Int)∧j<n])
 | _=>match x with | .ofNat j=>(W.req hn.sy (j<n)).bind fun _=>W.pure j | _=>W.fail
theorem GaS {hn:Hu} {x:Int} {n:Nat}:(GqV hn x n).sat fun j=>x=(j:Int)∧j<n:=by
 unfold GqV
 split
 ·intro a ps e h
  simp only [sJ,Prod.mk.injEq] at e
  obtain ⟨rfl,rfl⟩:=e
  exact h
 ·split
  ·exact W.sat_bind W.sat_req fun _ h=>W.sat_pure ⟨rfl,h⟩
  ·exact W.sat_fail
def GtK (P:Program) (hn:Hu) (t:TypeId) (x i:AV):W AV:=
 match P.underlying t,x,i with
 | some .string,.str s,.int _ n=>(GqV hn n s.length).bind fun j=>W.pure (.int .u8 (s.getD j 0).toNat)
 | some (.array len e),.agg c,.int _ n=>(GqV hn n len).bind fun j=>(W.of (Ug P e)).bind fun z=>W.of (Gp7 P e c (j*z))
 | _,_,_=>W.fail
theorem GtL {hn:Hu} {t:TypeId} {x i:AV} {a b:Value} {o o':Bool} (hx:G1 μ ro w o x a) (hi:G1 μ ro w o' i b):
  (GtK P hn t x i).sat fun v=>∃ v',(∀ w,(Instr.index t a b).run P w=.ok v' w)∧G1 μ ro w o v v':=by
 unfold GtK
 split
 ·rename_i s k n hu
  cases hx; cases hi
  rename_i b hb
  refine W.sat_bind GaS fun j ⟨hj,hlt⟩=>W.sat_pure ⟨_,fun w=>?_,.int⟩
  subst hb; subst hj
  have hlt':j<b.size:=by rw [← RD]; exact hlt
  have hg:b[j]?=some (b.data.toList.getD j 0):=by
   rw [getElem?_pos b j hlt',ByteArray.getElem_eq_getElem_data]
   have:=Gin b.data.toList j 0 hlt
   rw [List.getElem?_eq_getElem hlt] at this
   rw [← this]
   simp
  simp [Instr.index,asIntOf,GB hu,hg,Result.andThen]
 ·rename_i len e c k n hu
  cases hi
  obtain ⟨vs,rfl,hc⟩:=hx.agg_inv
  refine W.sat_bind GaS fun j ⟨hj,hlt⟩=>W.sat_bind (W.sat_of (Q:=fun z=>Ug P e=some z) fun z hz=>hz) fun z hz=>W.sat_of fun v hv=>?_
  obtain ⟨v',h1,h2⟩:=Gig hv hc
  refine ⟨v',fun w=>?_,h2⟩
  subst hj
  cases hi:P.info? e with
  | none=>simp [Ug,hi] at hz
  | some i=>
   simp only [Ug,hi,Option.map_some,sJ] at hz
   subst hz
   have:(0:Int)≤j∧(j:Int)<len:=⟨by omega,by omega⟩
   simp [Instr.index,asIntOf,GB hu,Hy hi,Result.andThen,this,h1]
   intro h; omega
 ·exact W.sat_fail
def Ggf (x:AV) (i:Nat):Option AV:=match x with | .tup c=>c[i]? | _=>none
theorem GqT {x v:AV} {a:Value} {i:Nat} {o:Bool} (h:Ggf x i=some v) (hx:G1 μ ro w o x a):
  ∃ v',(∀ w,(Instr.extract a i).run P w=.ok v' w)∧G1 μ ro w o v v':=by
 unfold Ggf at h
 split at h
 ·obtain ⟨vs,rfl,hc⟩:=hx.tup_inv
  have hlt:=(List.getElem?_eq_some_iff.1 h).1
  have hv:=hc.2 i hlt
  rename_i c
  rw [show c.getD i .any=v by simp [List.getD,h]] at hv
  refine ⟨_,fun w=>?_,hv⟩
  have hg:vs.toArray[i]?=some (vs.getD i undef):=by rw [List.getElem?_toArray]; exact Gin vs i undef (by rw [hc.1]; exact hlt)
  simp only [Instr.extract,hg]
  rfl
 ·cases h
def Gxs (c a b:AV):Option AV:=
 match c with
 | .bool β=>
  match a,b with
  | .bool x,.bool y=>some (.bool (bif β then x else y))
  | a,b=>match β with | true=>some a | false=>some b
 | _=>none
theorem Gv6 {c a b v:AV} {x y z:Value} {o:Bool} (h:Gxs c a b=some v) (hc:G1 μ ro w o c x) (ha:G1 μ ro w o a y) (hb:G1 μ ro w o b z):
  ∃ v',(∀ w,(do pure (if ← asBool x then y else z):Sem Value).run P w=.ok v' w)∧G1 μ ro w o v v':=by
 unfold Gxs at h
 split at h
 ·rename_i β
  cases hc
  refine ⟨if β then y else z,fun w=>by simp [asBool,Result.andThen],?_⟩
  split at h
  ·cases ha; cases hb
   simp only [sJ] at h
   subst h
   cases β <;> exact .bool
  ·split at h <;> simp only [sJ] at h <;> subst h
   ·exact ha
   ·exact hb
 ·cases h
def GtM (hn:Hu) (c a b:AV):W AV:=
 match hn with
 | .b β=>(match c with | .bool x=>(W.owe (x=β)).bind fun _=>(match β with | true=>W.pure a | false=>W.pure b) | _=>W.fail)
 | _=>W.of (Gxs c a b)
theorem GtN {hn:Hu} {c a b:AV} {x y z:Value} {o:Bool} (hc:G1 μ ro w o c x) (ha:G1 μ ro w o a y) (hb:G1 μ ro w o b z):
  (GtM hn c a b).sat fun v=>∃ v',(∀ w,(do pure (if ← asBool x then y else z):Sem Value).run P w=.ok v' w)∧G1 μ ro w o v v':=by
 unfold GtM
 split
 ·rename_i β
  split
  ·rename_i q
   refine W.sat_bind W.sat_owe fun _ he=>?_
   subst he
   cases hc
   cases q with
   | true=>exact W.sat_pure ⟨y,fun w=>by simp [asBool,Result.andThen],ha⟩
   | false=>exact W.sat_pure ⟨z,fun w=>by simp [asBool,Result.andThen],hb⟩
  ·exact W.sat_fail
 ·exact W.sat_of fun v hv=>Gv6 hv hc ha hb
end
end Go.Proofs.YtdifanfcaemokaaGreatDoor.Av
