import Derived.Test.YtnlaiahcemckkaaGreatDoorHAvH
import Derived.Maps.RangeRun
import Derived.Laws.BytesString
open Prod (fst)
open Int (tdiv tmod)
set_option linter.unusedVariables false
set_option linter.unusedSimpArgs false
namespace Go.Proofs.YtnlaiahcemckkaaGreatDoor.Av
noncomputable section
open Go.RowKit
variable {P:Program} {μ μ':Nat→Option HI} {ro ro':Nat→Prop} {w w':World}
def Gr5 (hn:Ht) (x y:AV):W (Nat×Nat):=
 match x,y with
 | .int _ a,.int _ b=>
  match hn with
  | .m l c=>(W.owe (a=(l:Int))).bind fun _=>(W.owe (b=(c:Int))).bind fun _=>W.pure (l,c)
  | _=>match a,b with | .ofNat l,.ofNat c=>W.pure (l,c) | _,_=>W.fail
 | _,_=>W.fail
theorem GrT {hn:Ht} {x y:AV}:(Gr5 hn x y).sat fun p=>(∃ k,x=.int k (p.1:Int))∧∃ k,y=.int k (p.2:Int):=by
 unfold Gr5
 split
 ·split
  ·exact W.sat_bind W.sat_owe fun _ h1=>W.sat_bind W.sat_owe fun _ h2=>W.sat_pure ⟨⟨_,by rw [h1]⟩,⟨_,by rw [h2]⟩⟩
  ·split
   ·exact W.sat_pure ⟨⟨_,rfl⟩,⟨_,rfl⟩⟩
   ·exact W.sat_fail
 ·exact W.sat_fail
def GiV (P:Program) (hn:Ht) (t:TypeId) (x y:AV) (h:Hp):W (AV×Hp):=
 match P.underlying t with
 | some (.slice e)=>
  match P.info? e with
  | some i=>
   match i.zero with
   | some z=>
    match !(cst z).isAny&&(Nat.ble i.bytes 4096&&(!Nat.beq i.size 0&&Nat.beq (cst z).cells.length i.size)) with
    | true=>(Gr5 hn x y).bind fun p=>(W.req hn.sy (p.1≤p.2)).bind fun _=>(W.req hn.sy (p.2≤4294967296)).bind fun _=>
     W.pure (.sl h.nx 0 p.1 p.2 true i.size,h.new (.blk ⟨GgC (cst z).cells p.2,e,false,0,(cst z).cells.all AV.pl,false,none⟩))
    | false=>W.fail
   | none=>W.fail
  | none=>W.fail
 | _=>W.fail
theorem GnM {hn:Ht} {t:TypeId} {x y:AV} {a b:Value} {h:Hp} (hx:GX μ ro w true x a) (hy:GX μ ro w true y b) (hh:GS μ ro h w):
  (GiV P hn t x y h).sat fun r=>KA P (Instr.makeSlice t a b) μ ro w h.nx r.1 r.2:=by
 unfold GiV
 split
 ·rename_i e hu
  split
  ·rename_i i hi
   split
   ·rename_i z hz
    split
    ·rename_i hb
     simp only [Bool.and_eq_true,Bool.not_eq_true'] at hb
     refine W.sat_bind GrT fun p ⟨⟨k,hk⟩,⟨k',hk'⟩⟩=>W.sat_bind W.sat_req fun _ h1=>W.sat_bind W.sat_req fun _ h2=>W.sat_pure ?_
     obtain ⟨l,c⟩:=p
     simp only at hk hk' h1 h2 ⊢
     subst hk; subst hk'
     cases hx; cases hy
     have hbytes:=nB hb.2.1
     have hs0:i.size≠0:=fun e=>by rw [e] at hb; simp at hb
     have hzl':=Nat.eq_of_beq_eq_true hb.2.2.2
     have hzr:=(Qi (μ:=μ) (ro:=ro) (w:=w) (o:=true) z).cells (AV.not_any (by simpa using hb.1))
     have hzr':GR μ ro w (!(cst z).cells.all AV.pl) (cst z).cells z.cells.toList:=hzr.plx
     have hze:z.cells.size=i.size:=by have:=hzr.1; simp at this; omega
     have hreps:=Gix hzr' c (c*i.size) (by rw [hzl'])
     let cs:=(Array.range (c*i.size)).map (z.cells[· % z.cells.size]!)
     have hcs:cs.size=c*i.size:=by simp [cs]
     have hrep2:∀ j,j<(GgC (cst z).cells c).length→GX μ ro w (!(cst z).cells.all AV.pl) ((GgC (cst z).cells c).getD j .any) (cs.getD j undef):=fun j hj=>by
      have:=hreps.2 j hj
      rwa [G0 cs] at this
     refine KA.of_new (cs:=cs) (e:=e) (v':=.slice (some ⟨w.heap.size,0,none⟩) l c) hh ?_ rfl (by simp [UR,hcs,hzl']) (fun _=>by simp [UR,hcs,hzl']) hrep2 (.sl (J4 _ _) (Nat.le_refl _) (fun _=>rfl) (by simp [hcs]))
     have wl:IntKind.i64.wrap (l:Int)=(l:Int):=IntWalk.i64_in _ (by omega)
     have wc:IntKind.i64.wrap (c:Int)=(c:Int):=IntWalk.i64_in _ (by omega)
     have hm:(i.bytes:Int)*(c:Int)≤2 ^ 48:=by
      have h3:i.bytes*c≤4096*4294967296:=Nat.mul_le_mul hbytes h2
      have:((i.bytes*c:Nat):Int)≤((4096*4294967296:Nat):Int):=Int.ofNat_le.2 h3
      rw [Int.natCast_mul] at this
      omega
     have hbig:(decide ((c:Int)<0)||decide ((i.bytes:Int)*(c:Int)>2 ^ 48))=false:=by
      rw [Bool.or_eq_false_iff]
      exact ⟨dF (by omega),dF (by omega)⟩
     simp only [Instr.makeSlice,Sem.run_bind,Gx hu,Result.andThen_ok,asInt,asIntOf,Sem.run_pure,Gaf hi,wl,wc,hbig,Bool.false_or]
     rw [if_neg (by simp; omega)]
     simp only [Sem.run_bind,Sem.run_pure,Result.andThen_ok,run_askRoom,Hw hi,Int.toNat_natCast]
     by_cases hz0:c*i.size=0
     ·simp only [hz0,if_true,Sem.run_pure,Result.andThen_ok,newRow,Sem.run_bind,run_newObj]
      have:cs=(Array.range 0).map fun x=>(#[]:Array Value)[x % (#[]:Array Value).size]! := by
       apply Array.ext
       ·simp [hcs,hz0]
       ·intro j h1 h2; simp at h2
      rw [← this]; rfl
     ·simp only [hz0,if_false,Sem.run_bind,Yz hi hz,Result.andThen_ok,Sem.run_pure,newRow,run_newObj]
      rfl
    ·exact W.sat_fail
   ·exact W.sat_fail
  ·exact W.sat_fail
 ·exact W.sat_fail
/-! ### elements of slices and strings -/
def Jo (s:List UInt8):List AV:=s.map fun b=>.int .u8 b.toNat
structure Els where
 n:Nat
 c:List AV
 pl:Bool
def GkU (hn:Ht) (vs:Option (List AV)) (h:Hp) (x:AV) (z:Nat):W Els:=
 match x with
 | .nils=>W.pure ⟨0,[],true⟩
 | .nen=>W.pure ⟨0,[],true⟩
 | .str s=>match Nat.beq z 1 with | true=>W.pure ⟨s.length,Jo s,true⟩ | false=>W.fail
 | .sl id off len cap ex z'=>
  match Nat.beq z' z,h.m.get id with
  | true,some (.blk k)=>
   (W.req hn.sy (off+mu len z≤k.c.length)).bind fun _=>
   match vs with
   | some vs=>(W.owe (sub k.c off (mu len z)=vs)).bind fun _=>W.pure ⟨len,vs,k.pl||vs.all AV.pl⟩
   | none=>W.pure ⟨len,sub k.c off (mu len z),k.pl||(sub k.c off (mu len z)).all AV.pl⟩
  | _,_=>W.fail
 | .lst c n=>(W.req hn.sy (c.length=mu n z)).bind fun _=>W.pure ⟨n,c,true⟩
 | .vec id n z'=>
  match Nat.beq z' z,h.m.get id with
  | true,some (.blk k)=>(W.req hn.sy (k.c.length=mu n z)).bind fun _=>
   match vs with
   | some vs=>(W.owe (k.c=vs)).bind fun _=>W.pure ⟨n,vs,k.pl⟩
   | none=>W.pure ⟨n,k.c,k.pl⟩
  | _,_=>W.fail
 | _=>W.fail
theorem GqM {s:List UInt8} {b:ByteArray} (hb:b.data.toList=s) (o:Bool):GR μ ro w o (Jo s) (b.data.map fun b=>Value.int .u8 b.toNat).toList:=by
 subst hb
 refine ⟨by simp [Jo],fun i hi=>?_⟩
 simp only [Jo,List.length_map] at hi
 have e1:(Jo b.data.toList).getD i .any=.int .u8 ((b.data.toList.getD i 0).toNat:Int):=by
  simp only [Jo,List.getD,List.getElem?_map,List.getElem?_eq_getElem hi]; rfl
 have e2:(b.data.map fun b=>Value.int .u8 b.toNat).toList.getD i undef=.int .u8 ((b.data.toList.getD i 0).toNat:Int):=by
  rw [Array.toList_map]
  simp only [List.getD,List.getElem?_map,List.getElem?_eq_getElem hi]; rfl
 rw [e1,e2]; exact .int
theorem VS {hn:Ht} {vs:Option (List AV)} {h:Hp} {x:AV} {a:Value} {z:Nat} (hx:GX μ ro w true x a) (hh:GS μ ro h w):
  (GkU hn vs h x z).sat fun p=>∃ xs:Array Value,(∀ w,(Builtin.lenOf a).run P w=.ok p.n w)∧(Builtin.firstCells z p.n a).run P w=.ok xs w∧GR μ ro w (!p.pl) p.c xs.toList∧p.c.length=p.n*z:=by
 unfold GkU
 split
 ·cases hx
  exact W.sat_pure ⟨#[],fun w=>rfl,rfl,GR.nil,by simp⟩
 ·cases hx
  exact W.sat_pure ⟨#[],fun w=>rfl,by simp [Builtin.firstCells,loadCells,loadCellsFrom],GR.nil,by simp⟩
 ·split
  ·rename_i s hz
   have hz':=Nat.eq_of_beq_eq_true hz
   cases hx with
   | str hs=>
    rename_i b
    refine W.sat_pure ⟨b.data.map fun b=>.int .u8 b.toNat,fun w=>?_,?_,GqM hs _,by simp [Jo,hz']⟩
    ·subst hs; rw [Rb]; rfl
    ·subst hs
     simp only [Builtin.firstCells,Rb,Sem.run_pure]
     have e:(b.extract 0 b.size).data=b.data:=by
      rw [ByteArray.data_extract]
      exact Array.extract_size
     rw [e]
  ·exact W.sat_fail
 ·rename_i id off len cap ex z'
  split
  ·rename_i k hz hk
   have hz':=Nat.eq_of_beq_eq_true hz
   subst hz'
   cases hx with
   | sl hb hc1 hc2 hc3=>
    rename_i cap' b
    have hob:=hh.obsM id _ _ hk hb
    obtain ⟨cs,fr,g1,g0,g2,g3,g4,g5⟩:=hob.get
    have key:∀ d:List AV,sub k.c off (mu len z')=d→off+mu len z'≤k.c.length→
      ∃ xs:Array Value,(∀ w,(Builtin.lenOf (.slice (some ⟨b.1,off,none⟩) len cap')).run P w=.ok len w)∧(Builtin.firstCells z' len (.slice (some ⟨b.1,off,none⟩) len cap')).run P w=.ok xs w∧GR μ ro w (!(k.pl||d.all AV.pl)) d xs.toList∧d.length=len*z':=by
     intro d hd hlen
     rw [Rm] at hd hlen
     have hdl:d.length=len*z':=by rw [← hd]; exact GmY hlen
     refine ⟨_,fun w=>rfl,XU (f:=fun j=>cs.getD (off+j) undef) (fun j hj=>Zb g1 (by omega)),?_,hdl⟩
     have:GR μ ro w (!k.pl) d ((List.range d.length).map fun j=>cs.getD (off+j) undef):=Gaq fun j hj=>by
      rw [← hd] at hj ⊢
      obtain ⟨e1,e2,e3⟩:=Gam hj
      rw [e1]
      exact g5 _ e2
     rw [hdl] at this
     cases hp:k.pl with
     | true=>rw [hp] at this; exact this
     | false=>rw [hp] at this; exact GR.plx this
    refine W.sat_bind W.sat_req fun _ hlen=>?_
    split
    ·exact W.sat_bind W.sat_owe fun _ hv=>W.sat_pure (key _ hv hlen)
    ·exact W.sat_pure (key _ rfl hlen)
  ·exact W.sat_fail
 ·rename_i c n
  refine W.sat_bind W.sat_req fun _ hlen=>W.sat_pure ?_
  rw [Rm] at hlen
  cases hx with
  | lstn=>
   refine ⟨#[],fun w=>rfl,?_,GR.nil,by simp⟩
   simp [Builtin.firstCells,loadCells,loadCellsFrom]
  | lst vs hb hc hr hn=>
   rename_i cap' a
   by_cases hne:c=[]
   ·subst hne
    have h0:n*z=0:=by simpa using hlen.symm
    refine ⟨#[],fun w=>rfl,?_,GR.nil,by simpa using h0.symm⟩
    simp [Builtin.firstCells,h0,loadCells,loadCellsFrom]
   ·obtain ⟨hro,hsp⟩:=hb hne
    obtain ⟨blk,off,spot⟩:=a
    simp only at hro hsp hc
    subst hsp
    refine ⟨_,fun w=>rfl,XU (f:=vs) (fun j hj=>hc j (by rw [hlen]; exact hj)),?_,hlen⟩
    have:GR μ ro w false c ((List.range c.length).map vs):=Gaq fun j hj=>hr j hj
    rwa [hlen] at this
 ·rename_i id n z'
  split
  ·rename_i k hz hk
   have hz':=Nat.eq_of_beq_eq_true hz
   subst hz'
   have key:k.c.length=mu n z'→∃ xs:Array Value,(∀ w,(Builtin.lenOf a).run P w=.ok n w)∧(Builtin.firstCells z' n a).run P w=.ok xs w∧GR μ ro w (!k.pl) k.c xs.toList∧k.c.length=n*z':=by
    intro hlen
    rw [Rm] at hlen
    cases hx with
    | vecn=>
     have:k.c=[]:=List.length_eq_zero_iff.1 (by simpa using hlen)
     rw [this]
     exact ⟨#[],fun w=>rfl,by simp [Builtin.firstCells,loadCells,loadCellsFrom],GR.nil,by simp⟩
    | vec hb hc1 hc3=>
     rename_i cap' b
     have hob:=hh.obsM id _ _ hk hb
     obtain ⟨cs,fr,g1,g0,g2,g3,g4,g5⟩:=Mu.get hob
     refine ⟨_,fun w=>rfl,XU (f:=fun j=>cs.getD j undef) (fun j hj=>by rw [Nat.zero_add]; exact Zb g1 (by omega)),?_,hlen⟩
     have:GR μ ro w (!k.pl) k.c ((List.range k.c.length).map fun j=>cs.getD j undef):=Gaq g5
     rw [hlen] at this
     exact this
   refine W.sat_bind W.sat_req fun _ hlen=>?_
   split
   ·exact W.sat_bind W.sat_owe fun _ hv=>W.sat_pure (hv ▸ key hlen)
   ·exact W.sat_pure (key hlen)
  ·exact W.sat_fail
 ·exact W.sat_fail
end
noncomputable section
open Go.RowKit
variable {P:Program} {μ μ':Nat→Option HI} {ro ro':Nat→Prop} {w w':World}
theorem W.sat_and {α:Type} {m:W α} {Q R:α→Prop} (h:m.sat Q) (k:m.sat R):m.sat fun a=>Q a∧R a:=fun a ps e ho=>⟨h a ps e ho,k a ps e ho⟩
theorem Gos (need:Nat):∀ (r c:Nat),c≤2*need+192→Builtin.growBy need r c≤2*need+192
 | 0,c,h=>h
 | r+1,c,h=>by
  unfold Builtin.growBy
  split
  ·exact h
  ·exact Gos need r _ (by omega)
theorem Gs2 {need cap:Nat} (h:cap<need):Builtin.nextslicecap need cap≤2*need+192:=by
 unfold Builtin.nextslicecap
 split
 ·omega
 ·split
  ·omega
  ·exact Gos need 4 cap (by omega)
def GnL:TypeDesc→Bool
 | .string | .slice _=>true
 | _=>false
theorem Ggz {d:TypeDesc} (h:GnL d=true):d=.string∨∃ e,d=.slice e:=by
 cases d <;> simp [GnL] at h ⊢
theorem GaR (z:Array Value) (n:Nat):(Builtin.zeroCells z n).size=n*z.size:=by simp [Builtin.zeroCells]
def GsA (b:Nat):Nat:=match Nat.ble b 1 with | true=>140737488355232 | false=>match Nat.ble b 16 with | true=>8796093022000 | false=>4294967296
theorem Gwb {b n:Nat} (hb:b≤4096) (hn:n≤GsA b):(2*n+192)*b≤281474976710656∧n≤140737488355232:=by
 unfold GsA at hn
 split at hn
 ·rename_i h
  have h1:=nB h
  have:(2*n+192)*b≤(2*n+192)*1:=Nat.mul_le_mul (Nat.le_refl _) h1
  omega
 split at hn
 ·rename_i h
  have h16:=nB h
  have:(2*n+192)*b≤(2*8796093022000+192)*16:=Nat.mul_le_mul (by omega) h16
  omega
 ·have:(2*n+192)*b≤(2*4294967296+192)*4096:=Nat.mul_le_mul (by omega) hb
  omega
theorem Gqa {ts:Array TypeId} {ty t t2 e:TypeId} {d2:TypeDesc} {i:TypeInfo} {z:Value} {base:Option Addr} {sLen sCap n:Nat} {x:Value} {old new:Array Value}
  (h0:ts[0]?=some t) (h1:ts[1]?=some t2) (hu:P.underlying t=some (.slice e)) (hu2:P.underlying t2=some d2) (hd2:GnL d2=true) (hi:P.info? e=some i) (hz:i.zero=some z)
  (hn:∀ w,(Builtin.lenOf x).run P w=.ok n w) (hneed:¬ sLen+n≤sCap) (hsm:sLen+n≤GsA i.bytes) (hby:i.bytes≤4096)
  (ho:(Builtin.firstCells i.size sLen (.slice base sLen sCap)).run P w.drew=.ok old w.drew) (hnw:(Builtin.firstCells i.size n x).run P w.drew=.ok new w.drew):
  ∃ (cap:Nat) (rest:Array Value),sLen+n≤cap∧rest.size=(cap - (sLen+n))*z.cells.size∧
   (Builtin.append_ ts ty #[.slice base sLen sCap,x]).run P w=.ok (.slice (some ⟨w.heap.size,0,none⟩) (sLen+n) cap) (w.drew.alloc (.cells (old++new++rest) e)):=by
 refine ⟨(Question.appendCap (sLen+n) sCap e).cut (w.tape w.drawn (.appendCap (sLen+n) sCap e)),Builtin.zeroCells z.cells _,?_,GaR _ _,?_⟩
 ·simp [Question.cut]
 ·obtain ⟨hL1,hL2⟩:=Gwb hby hsm
  have hb:¬ Builtin.nextslicecap (sLen+n) sCap*i.bytes>2 ^ 48:=by
   have h2:=Gs2 (need:=sLen+n) (cap:=sCap) (by omega)
   have h3:Builtin.nextslicecap (sLen+n) sCap*i.bytes≤(2*(sLen+n)+192)*i.bytes:=Nat.mul_le_mul_right _ h2
   omega
  have hov:¬ (((sLen+n:Nat):Int)>IntKind.i64.max∧(False∨i.bytes=0)):=by
   rintro ⟨h2,_⟩
   simp [IntKind.max,IntKind.signed,IntKind.bits] at h2
   omega
  have hch:(choose (.appendCap (sLen+n) sCap e)).run P w=.ok ((Question.appendCap (sLen+n) sCap e).cut (w.tape w.drawn (.appendCap (sLen+n) sCap e))) w.drew:=by
   rw [run_choose]; rfl
  rcases Ggz hd2 with rfl | ⟨e2,rfl⟩ <;>
  simp only [Builtin.append_,h0,h1,List.getElem?_toArray,List.getElem?_cons_zero,List.getElem?_cons_succ,Sem.run_bind,Gx hu,Result.andThen_ok,Hw hi,Gx hu2,Sem.run_pure,Bool.false_eq_true,if_false,hn,
   if_neg hneed,if_neg hov,Gaf hi,if_neg hb,hch,run_askRoom,ho,Bool.not_false,if_true,hnw,Yz hi hz,newRow,run_newObj]
  all_goals rfl
theorem Ggd {ts:Array TypeId} {ty t t2 e:TypeId} {d2:TypeDesc} {i:TypeInfo} {a:Addr} {sLen sCap n:Nat} {x:Value} {new:Array Value}
  (h0:ts[0]?=some t) (h1:ts[1]?=some t2) (hu:P.underlying t=some (.slice e)) (hu2:P.underlying t2=some d2) (hd2:GnL d2=true) (hi:P.info? e=some i)
  (hn:∀ w,(Builtin.lenOf x).run P w=.ok n w) (hneed:sLen+n≤sCap)
  (hnw:(Builtin.firstCells i.size n x).run P w=.ok new w) (hst:(storeCells (a.add (sLen*i.size)) new.toList).run P w=.ok () w'):
  (Builtin.append_ ts ty #[.slice (some a) sLen sCap,x]).run P w=.ok (.slice (some a) (sLen+n) sCap) w':=by
 rcases Ggz hd2 with rfl | ⟨e2,rfl⟩ <;>
 simp only [Builtin.append_,h0,h1,List.getElem?_toArray,List.getElem?_cons_zero,List.getElem?_cons_succ,Sem.run_bind,Gx hu,Result.andThen_ok,Hw hi,Gx hu2,Sem.run_pure,Bool.false_eq_true,if_false,hn,
  if_pos hneed,Bool.not_false,if_true,hnw,hst]
theorem append_nil {ts:Array TypeId} {ty t t2 e:TypeId} {d2:TypeDesc} {i:TypeInfo} {x:Value} {new:Array Value}
  (h0:ts[0]?=some t) (h1:ts[1]?=some t2) (hu:P.underlying t=some (.slice e)) (hu2:P.underlying t2=some d2) (hd2:GnL d2=true) (hi:P.info? e=some i)
  (hn:∀ w,(Builtin.lenOf x).run P w=.ok 0 w) (hnw:(Builtin.firstCells i.size 0 x).run P w=.ok new w):
  (Builtin.append_ ts ty #[.slice none 0 0,x]).run P w=.ok (.slice none 0 0) w:=by
 rcases Ggz hd2 with rfl | ⟨e2,rfl⟩ <;>
 simp only [Builtin.append_,h0,h1,List.getElem?_toArray,List.getElem?_cons_zero,List.getElem?_cons_succ,Sem.run_bind,Gx hu,Result.andThen_ok,Hw hi,Gx hu2,Sem.run_pure,Bool.false_eq_true,if_false,hn,
  Nat.add_zero,Nat.le_refl,if_true,Bool.not_false,hnw]
def GuQ (k:Option Nat) (n len cap:Nat) (ex:Bool):Nat:=
 match k with
 | some k=>k
 | none=>bif Nat.beq n 0 then 0 else bif Nat.ble (len+n) cap then 1 else bif ex then 2 else 3
def Gxe (kd:Option Nat) (k:Nat) (ex:Bool) (h:Hp) (id p:Nat):Nat:=
 match kd,k,ex with
 | none,1,false=>(match h.m.get id with | some (.blk b)=>(match Nat.beq b.c.length p with | true=>3 | false=>1) | _=>1)
 | _,k,_=>k
def Gu5 (L:Nat) (sy:Bool) (h:Hp) (e:TypeId) (c:List AV) (pl:Bool) (n z:Nat):W (AV×Hp):=
 (W.req sy (n≤L)).bind fun _=>W.pure (.sl h.nx 0 n n false z,h.new (.blk ⟨c,e,true,0,pl,false,none⟩))
def GmO (L:Nat) (hn:Ht) (kd:Option Nat) (e:TypeId) (z:Nat) (s:AV) (x:Els) (h:Hp):W (AV×Hp):=
 match s with
 | .nils=>
  match GuQ kd x.n 0 0 true with
  | 0=>(W.req hn.sy (x.n=0)).bind fun _=>W.pure (.nils,h)
  | _=>(W.req hn.sy (0<x.n)).bind fun _=>Gu5 L hn.sy h e x.c x.pl x.n z
 | .sl id off len cap ex z'=>
  (W.req false (z'=z)).bind fun _=>
  match Gxe kd (GuQ kd x.n len cap ex) ex h id (ad off (mu len z)) with
  | 0=>(W.req hn.sy (x.n=0)).bind fun _=>(W.req hn.sy (len≤cap)).bind fun _=>W.pure (s,h)
  | 1=>(W.req hn.sy (len+x.n≤cap)).bind fun _=>(Gla hn.sy hn.sy h id (ad off (mu len z)) x.c x.pl).bind fun h'=>W.pure (.sl id off (len+x.n) cap ex z,h')
  | 2=>(W.req false (ex=true)).bind fun _=>(W.req hn.sy (cap<len+x.n)).bind fun _=>(GkU hn none h s z).bind fun y=>Gu5 L hn.sy h e (y.c++x.c) (y.pl&&x.pl) (len+x.n) z
  | _=>
   match h.m.get id with
   | some (.blk k)=>
    (W.req false (ex=false∧off=0∧k.e=e)).bind fun _=>(W.req hn.sy (0<x.n)).bind fun _=>(W.req hn.sy (k.c.length=mu len z)).bind fun _=>
    (match k.fz with | 0=>W.pure () | f+1=>W.req hn.sy (f+1≤mu len z)).bind fun _=>
    (W.req hn.sy (x.c.all AV.one=true)).bind fun _=>(W.req hn.sy (len+x.n≤L)).bind fun _=>
    W.pure (.sl h.nx 0 (len+x.n) (len+x.n) false z,(h.del id).new (.blk { k with c:=k.c++x.c,ext:=true,pl:=k.pl&&x.pl }))
   | _=>W.fail
 | .vec id len z'=>
  (W.req false (z'=z)).bind fun _=>
  match h.m.get id with
  | some (.blk k)=>
   (W.req false (k.e=e∧k.fz=0)).bind fun _=>(W.req hn.sy (k.c.length=mu len z)).bind fun _=>
   (W.req hn.sy (x.c.all AV.one=true)).bind fun _=>(W.req hn.sy (len+x.n≤L)).bind fun _=>
   W.pure (.vec h.nx (len+x.n) z,(h.del id).new (.blk { k with c:=k.c++x.c,ext:=true,pl:=k.pl&&x.pl,o:=true }))
  | _=>W.fail
 | _=>W.fail
def Ht.kd:Ht→Option Nat
 | .ap k=>some k
 | _=>none
def Gu2 (d2:TypeDesc) (e:TypeId) (i:TypeInfo) (zv:Value) (s x:AV) (h:Hp):W (AV×Hp):=
 match d2,s,x with
 | .int _,.nils,.int .i64 (.ofNat n)=>
  match Nat.blt 0 n&&(Nat.ble n 4294967296&&(Nat.ble i.bytes 4096&&(!Nat.beq i.size 0&&Nat.beq zv.cells.size i.size))) with
  | true=>W.pure (.sl h.nx 0 n n false i.size,h.new (.blk ⟨[],e,true,0,true,false,none⟩))
  | false=>W.fail
 | _,_,_=>W.fail
theorem GpC {ts:Array TypeId} {ty t t2 e:TypeId} {k:IntKind} {i:TypeInfo} {z:Value} {n:Nat}
  (h0:ts[0]?=some t) (h1:ts[1]?=some t2) (hu:P.underlying t=some (.slice e)) (hu2:P.underlying t2=some (.int k)) (hi:P.info? e=some i) (hz:i.zero=some z)
  (hn0:0<n) (hsm:n≤4294967296) (hby:i.bytes≤4096) (hs0:i.size≠0):
  ∃ (cap:Nat) (rest:Array Value),n≤cap∧rest.size=cap*z.cells.size∧
   (Builtin.append_ ts ty #[.slice none 0 0,.int .i64 (n:Int)]).run P w=.ok (.slice (some ⟨w.heap.size,0,none⟩) n cap) (w.drew.alloc (.cells rest e)):=by
 have hge:n≤(Question.appendCap n 0 e).cut (w.tape w.drawn (.appendCap n 0 e)):=by simp [Question.cut]
 refine ⟨(Question.appendCap n 0 e).cut (w.tape w.drawn (.appendCap n 0 e)),Builtin.zeroCells z.cells n++Builtin.zeroCells z.cells ((Question.appendCap n 0 e).cut (w.tape w.drawn (.appendCap n 0 e)) - n),hge,?_,?_⟩
 ·rw [Array.size_append,GaR,GaR,← Nat.add_mul,Nat.add_sub_cancel' hge]
 ·have hb:¬ Builtin.nextslicecap n 0*i.bytes>2 ^ 48:=by
   have h2:=Gs2 (need:=n) (cap:=0) hn0
   have h3:Builtin.nextslicecap n 0*i.bytes≤(2*4294967296+192)*4096:=Nat.mul_le_mul (by omega) hby
   omega
  have hov:¬ (((n:Nat):Int)>IntKind.i64.max∧(True∨i.bytes=0)):=by
   rintro ⟨h2,_⟩
   simp [IntKind.max,IntKind.signed,IntKind.bits] at h2
   omega
  have hch:(choose (.appendCap n 0 e)).run P w=.ok ((Question.appendCap n 0 e).cut (w.tape w.drawn (.appendCap n 0 e))) w.drew:=by
   rw [run_choose]; rfl
  have wl:IntKind.i64.wrap (n:Int)=(n:Int):=IntWalk.i64_in _ (by omega)
  have hneg:¬ ((n:Int)<0):=by omega
  have hbig:¬ ((n:Int)*(i.bytes:Int)>2 ^ 48):=by
   have h3:n*i.bytes≤4294967296*4096:=Nat.mul_le_mul hsm hby
   have:((n*i.bytes:Nat):Int)≤((4294967296*4096:Nat):Int):=Int.ofNat_le.2 h3
   rw [Int.natCast_mul] at this
   omega
  have hn1:¬ (n≤0):=by omega
  have hns:¬ (n*i.size=0):=by
   intro h
   rcases Nat.mul_eq_zero.1 h with h | h
   ·omega
   ·exact hs0 h
  have hf:∀ w:World,(Builtin.firstCells i.size 0 (.slice none 0 0)).run P w=.ok #[] w:=fun w=>rfl
  simp only [Builtin.append_,h0,h1,List.getElem?_toArray,List.getElem?_cons_zero,List.getElem?_cons_succ,Sem.run_bind,Gx hu,Result.andThen_ok,Hw hi,Gx hu2,Sem.run_pure,if_true,asInt,asIntOf,wl,if_neg hneg,Gaf hi,if_neg hbig,
   Int.toNat_natCast,Nat.zero_add,if_neg hn1,if_neg hov,if_neg hb,hch,run_askRoom,hf,Bool.not_true,Bool.false_eq_true,if_false,if_neg hns,Yz hi hz,newRow,run_newObj,Array.empty_append]
  rfl
def Go0 (P:Program) (hn:Ht) (ts:Array TypeId) (s x:AV) (h:Hp):W (AV×Hp):=
 match ts[0]?,ts[1]? with
 | some t,some t2=>
  match P.underlying t,P.underlying t2 with
  | some (.slice e),some d2=>
   match P.info? e with
   | some i=>
    match i.zero with
    | some zv=>
     match GnL d2&&(Nat.ble i.bytes 4096&&(!Nat.beq i.size 0&&Nat.beq zv.cells.size i.size)) with
     | true=>(GkU hn none h x i.size).bind fun y=>GmO (GsA i.bytes) hn hn.kd e i.size s y h
     | false=>Gu2 d2 e i zv s x h
    | none=>W.fail
   | none=>W.fail
  | _,_=>W.fail
 | _,_=>W.fail
theorem GR.app_pl {c d:List AV} {vs xs:List Value} {p q:Bool} (h:GR μ ro w (!p) c vs) (k:GR μ ro w (!q) d xs):GR μ ro w (!(p&&q)) (c++d) (vs++xs):=by
 cases p <;> cases q
 ·exact h.app k
 ·exact h.app (GR.up (o:=true) k)
 ·exact (GR.up (o:=true) h).app k
 ·exact h.app k
theorem Gqj {α:Type} (a b:Array α) (i:Nat) (d:α) (h:i<a.size):(a++b).getD i d=a.getD i d:=by
 have h2:i<(a++b).size:=by simp; omega
 simp only [Array.getD,dif_pos h,dif_pos h2]
 exact Array.getElem_append_left h
theorem KA.grown {s:Sem Value} {h:Hp} {cs rest:Array Value} {e:TypeId} {c:List AV} {pl:Bool} {n z cap:Nat} (hh:GS μ ro h w)
  (hr:s.run P w=.ok (.slice (some ⟨w.heap.size,0,none⟩) n cap) (w.drew.alloc (.cells (cs++rest) e))) (hc:GR μ ro w (!pl) c cs.toList) (hcap:n≤cap) (hsz:cap*z≤(cs++rest).size):
  KA P s μ ro w h.nx (.sl h.nx 0 n n false z) (h.new (.blk ⟨c,e,true,0,pl,false,none⟩)):=by
 have hd:=hh.drew
 obtain ⟨h1,h2⟩:=Gne (cs:=cs++rest) (e:=e) (k:=⟨c,e,true,0,pl,false,none⟩) hd rfl (by have:=hc.1; simp at this ⊢; omega) (fun h=>by cases h)
  (fun i hi=>by
   have:=hc.2 i hi
   have hi2:i<cs.size:=by have:=hc.1; simp at this; simp at hi; omega
   rw [G0 cs] at this
   rw [Gqj _ _ _ _ hi2]
   exact this.mono (fun _ _ h=>h) (fun _ h=>h) (fun _ _=>rfl))
 exact ⟨_,_,_,hr,Kj _ _,.sl (J4 _ _) hcap (fun h=>by cases h) (by simpa using hsz),h1,(Fr.drew μ ro w).trans h2 (fun _ h=>h)⟩
end
noncomputable section
open Go.RowKit
variable {P:Program} {μ μ':Nat→Option HI} {ro ro':Nat→Prop} {w w':World}
theorem GX.drew {o:Bool} {v:AV} {x:Value} (h:GX μ ro w o v x):GX μ ro w.drew o v x:=h.mono (fun _ _ h=>h) (fun _ h=>h) (fun _ _=>rfl)
theorem GR.undrew {o:Bool} {c:List AV} {vs:List Value} (h:GR μ ro w.drew o c vs):GR μ ro w o c vs:=h.mono (fun _ _ h=>h) (fun _ h=>h) (fun _ _=>rfl)
def EP (P:Program) (μ:Nat→Option HI) (ro:Nat→Prop) (w:World) (a:Value) (z:Nat) (p:Els):Prop:=
 ∃ xs:Array Value,(∀ w,(Builtin.lenOf a).run P w=.ok p.n w)∧(Builtin.firstCells z p.n a).run P w=.ok xs w∧GR μ ro w (!p.pl) p.c xs.toList∧p.c.length=p.n*z
structure GvG (P:Program) (ts:Array TypeId) (e:TypeId) (i:TypeInfo) (zv:Value):Prop where
 ex:∃ t t2 d2,ts[0]?=some t∧ts[1]?=some t2∧P.underlying t=some (.slice e)∧P.underlying t2=some d2∧GnL d2=true
 hi:P.info? e=some i
 hz:i.zero=some zv
 hby:i.bytes≤4096
 hs0:i.size≠0
 hzs:zv.cells.size=i.size
theorem Gkr {ts:Array TypeId} {ty e:TypeId} {i:TypeInfo} {zv:Value} (T:GvG P ts e i zv) {base:Option Addr} {sLen sCap:Nat} {b:Value} {h h':Hp} {x y:Els}
  (hh:GS μ ro h w) (hh':GS μ ro h' w) (hx:EP P μ ro w.drew b i.size x) (hy:EP P μ ro w.drew (.slice base sLen sCap) i.size y) (hyn:y.n=sLen) (hneed:¬ sLen+x.n≤sCap) (hsm:sLen+x.n≤GsA i.bytes):
  KA P (Builtin.append_ ts ty #[.slice base sLen sCap,b]) μ ro w h'.nx (.sl h'.nx 0 (sLen+x.n) (sLen+x.n) false i.size) (h'.new (.blk ⟨y.c++x.c,e,true,0,y.pl&&x.pl,false,none⟩)):=by
 obtain ⟨t,t2,d2,h0,h1,hu,hu2,hd2⟩:=T.ex
 obtain ⟨xs,hn,hf,hr,hl⟩:=hx
 obtain ⟨ys,hn',hf',hr',hl'⟩:=hy
 rw [hyn] at hf'
 obtain ⟨cap,rest,hc1,hc2,hrun⟩:=Gqa (ty:=ty) h0 h1 hu hu2 hd2 T.hi T.hz hn hneed hsm T.hby hf' hf
 have hlen:(ys++xs).size=(sLen+x.n)*i.size:=by
  have e1:=hr.1; have e2:=hr'.1
  simp only [Array.length_toList] at e1 e2
  rw [Array.size_append,e1,e2,hl,hl',hyn,Nat.add_mul]
 refine KA.grown (cs:=ys++xs) (rest:=rest) hh' hrun ?_ hc1 ?_
 ·rw [Array.toList_append]; exact hr'.undrew.app_pl hr.undrew
 ·rw [Array.size_append,hlen,hc2,T.hzs,← Nat.add_mul,Nat.add_sub_cancel' hc1]
  exact Nat.le_refl _
theorem Goi {L:Nat} {sy:Bool} {h:Hp} {e:TypeId} {c:List AV} {pl:Bool} {n z:Nat}:(Gu5 L sy h e c pl n z).sat fun r=>n≤L∧r=(.sl h.nx 0 n n false z,h.new (.blk ⟨c,e,true,0,pl,false,none⟩)):=
 W.sat_bind W.sat_req fun _ hn=>W.sat_pure ⟨hn,rfl⟩
theorem Gtg {ts:Array TypeId} {ty e:TypeId} {i:TypeInfo} {zv:Value} (T:GvG P ts e i zv) {id len cap':Nat} {l:HI} {k:G6} {ob:Ob} {b:Value} {h:Hp} {x:Els}
  (hk:h.m.get id=some ob) (hob:Ul μ ro w l (.blk k)) (hb:μ id=some l) (hc3:cap'*i.size≤l.2) (hh:GS μ ro h w) (hx:EP P μ ro w b i.size x) (hxd:EP P μ ro w.drew b i.size x)
  (hke:k.e=e) (hkl:k.c.length=len*i.size) (hfz:k.fz≤len*i.size) (hone:x.c.all AV.one=true) (hsm:len+x.n≤GsA i.bytes):
  KA P (Builtin.append_ ts ty #[.slice (some ⟨l.1,0,none⟩) len cap',b]) μ ro w h.nx (.sl h.nx 0 (len+x.n) (len+x.n) false i.size) ((h.del id).new (.blk { k with c:=k.c++x.c,ext:=true,pl:=k.pl&&x.pl })):=by
 have hT:=T
 obtain ⟨⟨t,t2,d2,h0,h1,hu,hu2,hd2⟩,hi,hz,hby,hs0,hzs⟩:=hT
 have hdel:=hh.del id
 by_cases hroom:len+x.n≤cap'
 · -- in place
  obtain ⟨xs,hnl,hf,hr,hl⟩:=hx
  obtain ⟨cs,fr,g1,g0,g2,g3,g4,g5⟩:=hob.get
  have hxs:xs.toList.length=x.n*i.size:=by rw [hr.1,hl]
  have hN:(len+x.n)*i.size≤cap'*i.size:=Nat.mul_le_mul_right _ hroom
  rw [Nat.add_mul] at hN
  obtain ⟨w',hst,hw⟩:=GdQ (P:=P) xs.toList 0 w l.1 (len*i.size) k.e fr cs g1 (by omega) (fun j h1 h2 hfr=>by have:=g4 j hfr.1 hfr.2; omega) (fun v hv=>by
   obtain ⟨j,hj,rfl⟩:=List.getElem_of_mem hv
   have hj':j<x.c.length:=by rw [← hr.1]; exact hj
   have:=hr.2 j hj'
   rw [List.all_eq_true] at hone
   have h1:=hone (x.c.getD j .any) (by rw [List.getD_eq_getElem?_getD,List.getElem?_eq_getElem hj']; exact List.getElem_mem hj')
   have h2:=this.one h1
   rwa [List.getD_eq_getElem?_getD,List.getElem?_eq_getElem hj] at h2)
  rw [Nat.add_zero] at hw
  have hro:∀ j,ro j→w'.heap[j]?=w.heap[j]?:=fun j hj=>hw.other j (fun e=>hh.own id _ l hk hb (e ▸ hj))
  have hle:=Gfu hdel l
  refine ⟨.slice (some ⟨l.1,0,none⟩) (len+x.n) cap',w',upd μ h.nx l,Ggd h0 h1 hu hu2 hd2 hi hnl hroom hf (by rw [Ka,Nat.zero_add]; exact hst),Kj _ _,
   .sl (J4 _ _) hroom (fun h=>by cases h) (by omega),?_,⟨hw.os,hw.tape,hw.output,Nat.le_of_eq hw.size.symm,hro,fun c _ hn=>hw.other c (fun e=>hn id l hb e.symm),fun j m hj=>?_⟩⟩
  rotate_left
  ·unfold upd at hj
   split at hj
   ·simp only [sJ] at hj; subst hj; exact .inl ⟨id,l,hb,rfl⟩
   ·exact .inl ⟨j,m,hj,rfl⟩
  refine GS.add hdel _ l (Nat.le_of_eq hw.size.symm) (by rw [hw.size]; exact hh.lt id l hb) (fun j k' c hj hc e=>?_) (hh.own id _ l hk hb) (fun j hj _=>hw.other j hj) ?_
  ·simp only [Hp.del,Tr.get_put] at hj
   split at hj
   ·cases hj
   ·rename_i hne
    exact hne (hh.inj j id k' _ c l hj hk hc hb e)
  ·refine ⟨⟨_,fr,hw.at_,by rw [KU]; exact g0,by simp [KU]; omega,fun h=>(by cases h),fun j h1 h2=>by rw [KU]; exact g4 j h1 h2,fun j hj=>?_⟩⟩
   simp only [List.length_append] at hj
   rw [Zi _ _ _ _ (by omega)]
   by_cases hjk:j<k.c.length
   ·rw [if_neg (by omega)]
    have:=g5 j hjk
    have e:(k.c++x.c).getD j .any=k.c.getD j .any:=by simp [List.getD,List.getElem?_append_left hjk]
    rw [e]
    have h9:GX μ ro w (!(k.pl&&x.pl)) (k.c.getD j .any) (cs.getD j undef):=by
     cases hp:k.pl with
     | true=>rw [hp] at this; exact this.any_o
     | false=>rw [hp] at this; exact this
    exact h9.mono hle (fun _ h=>h) hro
   ·rw [if_pos (by omega)]
    have h8:=hr.2 (j - k.c.length) (by omega)
    have e:(k.c++x.c).getD j .any=x.c.getD (j - k.c.length) .any:=by simp [List.getD,List.getElem?_append_right (Nat.le_of_not_lt hjk)]
    rw [e,← hkl]
    have h9:GX μ ro w (!(k.pl&&x.pl)) (x.c.getD (j - k.c.length) .any) (xs.toList.getD (j - k.c.length) undef):=by
     cases hp:x.pl with
     | true=>rw [hp] at h8; exact h8.any_o
     | false=>rw [hp] at h8; simpa using h8
    exact h9.mono hle (fun _ h=>h) hro
 · -- a new array
  have hy:EP P μ ro w.drew (.slice (some ⟨l.1,0,none⟩) len cap') i.size ⟨len,k.c,k.pl⟩:=by
   obtain ⟨cs,fr,g1,g0,g2,g3,g4,g5⟩:=hob.get
   refine ⟨_,fun w=>rfl,XU (f:=fun j=>cs.getD j undef) (fun j hj=>by rw [Nat.zero_add]; exact Zb (w:=w.drew) g1 (by simp only at hj; omega)),?_,hkl⟩
   have:GR μ ro w (!k.pl) k.c ((List.range k.c.length).map fun j=>cs.getD j undef):=Gaq g5
   rw [hkl] at this
   exact this.mono (fun _ _ h=>h) (fun _ h=>h) (fun _ _=>rfl)
  obtain ⟨v',w',μ'',q1,q2,q3,q4,q5⟩:=Gkr (ty:=ty) T (h':=h.del id) hh hdel hxd hy rfl hroom hsm
  refine ⟨v',w',μ'',q1,q2,q3,?_,q5⟩
  refine q4.weak rfl fun j k' hj=>?_
  simp only [Hp.new,Tr.get_put] at hj ⊢
  by_cases e2:j=(h.del id).nx
  ·simp only [if_pos e2,sJ] at hj ⊢
   subst hj
   subst hke
   refine ⟨_,rfl,fun c hc ⟨⟨cs,fr,g1,g0,g2,g3,g4,g5⟩⟩=>⟨⟨cs,fr,g1,g0,g2,g3,fun j h1 h2=>?_,g5⟩⟩,fun h=>by cases h.1⟩
   rcases g4 j h1 h2 with h | h
   ·cases h
   ·exact .inr h
  ·simp only [if_neg e2] at hj ⊢
   exact ⟨k',hj,fun _ _ h=>h,fun h=>h⟩
theorem KA.to_vec {s:Sem Value} {h:Hp} {n z:Nat} {k k':G6} (g:KA P s μ ro w h.nx (.sl h.nx 0 n n false z) (h.new (.blk k)))
  (hc:k'.c=k.c) (he:k'.e=k.e) (hx:k'.ext=false→k.ext=false) (hz:k.fz≤k'.fz) (hp:k'.pl=true→k.pl=true) (ho:k'.o=true):KA P s μ ro w h.nx (.vec h.nx n z) (h.new (.blk k')):=by
 obtain ⟨v',w',μ',h1,h2,h3,h4,h5⟩:=g
 refine ⟨v',w',μ',h1,h2,?_,?_,h5⟩
 ·cases h3 with
  | sl hb q1 q2 q3=>exact .vec hb q1 (by omega)
 ·refine h4.weak rfl fun j k1 hj=>?_
  simp only [Hp.new,Tr.get_put] at hj ⊢
  by_cases e2:j=h.nx
  ·simp only [if_pos e2,sJ] at hj ⊢
   subst hj
   refine ⟨_,rfl,fun c hc2 hr=>?_,fun h=>⟨ho,hc ▸ h.2⟩⟩
   obtain ⟨cs,fr,g1,g0,g2,g3,g4,g5⟩:=Mu.get hr
   refine ⟨⟨cs,fr,he ▸ g1,g0,hc ▸ g2,fun h=>by rw [hc]; exact g3 (hx h),fun j a b=>?_,fun j hj=>?_⟩⟩
   ·rcases g4 j a b with h | h
    ·exact .inl (by omega)
    ·exact .inr h
   ·rw [hc] at hj ⊢
    have:=g5 j hj
    cases hp':k'.pl with
    | true=>rw [hp hp'] at this; exact this
    | false=>exact this.any_or
  ·simp only [if_neg e2] at hj ⊢
   exact ⟨k1,hj,fun _ _ h=>h,fun h=>h⟩
theorem GS.newAbs {h:Hp} (hh:GS μ ro h w) (k:G6) (hk:k.o=true∧k.c=[]):GS μ ro (h.new (.blk k)) w:=by
 have hne:∀ {i k' b},(h.new (.blk k)).m.get i=some k'→μ i=some b→h.m.get i=some k':=fun {i k' b} hi hb=>by
  simp only [Hp.new,Tr.get_put] at hi
  by_cases e:i=h.nx
  ·rw [hh.nx i (by omega)] at hb; cases hb
  ·rwa [if_neg e] at hi
 refine ⟨fun i k' hi=>?_,fun i j k1 k2 b c hi hj hb hc e=>hh.inj i j k1 k2 b c (hne hi hb) (hne hj hc) hb hc e,fun i k' b hi hb=>hh.own i k' b (hne hi hb) hb,hh.lt,hh.old,fun i hi=>hh.nx i (by simp only [Hp.new] at hi; omega)⟩
 simp only [Hp.new,Tr.get_put] at hi
 by_cases e:i=h.nx
 ·rw [if_pos e] at hi
  cases hi
  exact .inr ⟨hh.nx i (by omega),hk,by simp only [Hp.new]; omega⟩
 ·rw [if_neg e] at hi
  exact (hh.obs i k' hi).imp_right fun ⟨a,b,c⟩=>⟨a,b,Nat.lt_succ_of_lt c⟩
theorem Gp2 {hn:Ht} {kd:Option Nat} {ts:Array TypeId} {ty e:TypeId} {i:TypeInfo} {zv:Value} (T:GvG P ts e i zv) {s:AV} {a b:Value} {h:Hp} {x:Els}
  (hs:GX μ ro w true s a) (hh:GS μ ro h w) (hx:EP P μ ro w b i.size x) (hxd:EP P μ ro w.drew b i.size x):
  (GmO (GsA i.bytes) hn kd e i.size s x h).sat fun r=>KA P (Builtin.append_ ts ty #[a,b]) μ ro w h.nx r.1 r.2:=by
 have hT:=T
 obtain ⟨⟨t,t2,d2,h0,h1,hu,hu2,hd2⟩,hi,hz,hby,hs0,hzs⟩:=hT
 unfold GmO
 split
 ·cases hs
  split
  ·refine W.sat_bind W.sat_req fun _ hn0=>W.sat_pure ?_
   obtain ⟨xs,hn,hf,hr,hl⟩:=hx
   rw [hn0] at hf
   exact KA.of_pure (append_nil h0 h1 hu hu2 hd2 hi (fun w=>by rw [hn,hn0]) hf) .nils hh
  ·refine W.sat_bind W.sat_req fun _ hn0=>W.sat_mono Goi fun r ⟨hsm,hr⟩=>?_
   subst hr
   have:=Gkr (ty:=ty) T (y:=⟨0,[],true⟩) hh hh hxd ⟨#[],fun w=>rfl,rfl,GR.nil,by simp⟩ rfl (base:=none) (sLen:=0) (sCap:=0) (by omega) (by omega)
   simpa using this
 ·rename_i id off len cap ex z'
  refine W.sat_bind W.sat_req fun _ hzz=>?_
  subst hzz
  have hs':=hs
  cases hs with
  | sl hb hc1 hc2 hc3=>
   rename_i cap' l
   split
   ·refine W.sat_bind W.sat_req fun _ hn0=>W.sat_bind W.sat_req fun _ hlc=>W.sat_pure ?_
    obtain ⟨xs,hnl,hf,hr,hl⟩:=hx
    have hxs:xs.toList=[]:=by
     have:=hr.1
     rw [hn0,Nat.zero_mul] at hl
     rw [hl] at this
     exact List.length_eq_zero_iff.1 this
    have hrun:=Ggd (P:=P) (w:=w) (w':=w) (ty:=ty) (a:=⟨l.1,off,none⟩) (sLen:=len) (sCap:=cap') h0 h1 hu hu2 hd2 hi hnl (by omega) hf (by rw [hxs]; rfl)
    rw [hn0] at hrun
    exact KA.of_pure hrun hs' hh
   ·refine W.sat_bind W.sat_req fun _ hroom=>?_
    obtain ⟨xs,hnl,hf,hr,hl⟩:=hx
    refine W.sat_bind (GdL (P:=P) hb hr hh) fun h' ⟨w',h5,h6,h7⟩=>W.sat_pure ?_
    rw [Gnv,Rm] at h5
    refine ⟨.slice (some ⟨l.1,off,none⟩) (len+x.n) cap',w',μ,?_,.refl _ _,.sl hb hc1 hc2 hc3,h6,h7⟩
    exact Ggd h0 h1 hu hu2 hd2 hi hnl (by omega) hf (by rw [Ka]; exact h5)
   ·refine W.sat_bind W.sat_req fun _ hex=>W.sat_bind W.sat_req fun _ hroom=>W.sat_bind (W.sat_and (VS (P:=P) (w:=w.drew) hs'.drew hh.drew) (VS (P:=P) hs' hh)) fun y ⟨hy,hy2⟩=>W.sat_mono Goi fun r ⟨hsm,hr⟩=>?_
    subst hr
    have hyn:y.n=len:=by
     obtain ⟨_,h,_⟩:=hy
     have:=h w
     simp only [Builtin.lenOf,Sem.run_pure,Result.ok.injEq] at this
     exact this.1.symm
    exact Gkr T hh hh hxd hy hyn (by rw [hc2 hex]; omega) hsm
   ·split
    ·rename_i k hk
     refine W.sat_bind W.sat_req fun _ ⟨hex,hoff,hke⟩=>W.sat_bind W.sat_req fun _ hn0=>W.sat_bind W.sat_req fun _ hkl=>W.sat_bind (Q:=fun _=>k.fz≤len*i.size) ?_ fun _ hfz=>
      W.sat_bind W.sat_req fun _ hone=>W.sat_bind W.sat_req fun _ hsm=>W.sat_pure ?_
     ·split
      ·rename_i h0; exact W.sat_pure (by omega)
      ·rename_i n hn; exact W.sat_mono W.sat_req fun _ h=>by rw [Rm] at h; omega
     subst hoff
     rw [Rm] at hkl
     have hob:=hh.obsM id _ _ hk hb
     have hdel:=hh.del id
     exact Gtg T hk hob hb (by omega) hh hx hxd hke hkl hfz hone hsm
    ·exact W.sat_fail
 ·rename_i id len z'
  refine W.sat_bind W.sat_req fun _ hzz=>?_
  subst hzz
  split
  ·rename_i k hk
   refine W.sat_bind W.sat_req fun _ ⟨hke,hfz⟩=>W.sat_bind W.sat_req fun _ hkl=>W.sat_bind W.sat_req fun _ hone=>W.sat_bind W.sat_req fun _ hsm=>W.sat_pure ?_
   rw [Rm] at hkl
   have hdel:=hh.del id
   cases hs with
   | vecn=>
    have hc0:k.c=[]:=List.length_eq_zero_iff.1 (by simpa using hkl)
    by_cases hn0:x.n=0
    ·obtain ⟨xs,hn,hf,hr,hl⟩:=hx
     rw [hn0] at hf
     have hxc:x.c=[]:=List.length_eq_zero_iff.1 (by rw [hl,hn0]; simp)
     refine ⟨.slice none 0 0,w,μ,append_nil h0 h1 hu hu2 hd2 hi (fun w=>by rw [hn,hn0]) hf,.refl _ _,?_,hdel.newAbs _ ⟨rfl,by simp [hc0,hxc]⟩,Fr.refl _ _ _⟩
     rw [hn0]
     exact .vecn
    ·have:=Gkr (ty:=ty) T (y:=⟨0,[],true⟩) (h':=h.del id) hh hdel hxd ⟨#[],fun w=>rfl,rfl,GR.nil,by simp⟩ rfl (base:=none) (sLen:=0) (sCap:=0) (by omega) (by omega)
     exact KA.to_vec (h:=h.del id) this (by simp [hc0]) hke (fun h=>by cases h) (by simp) (by simp) rfl
   | vec hb q1 q3=>
    have hob:=hh.obsM id _ _ hk hb
    have:=Gtg (ty:=ty) T hk (show Ul μ ro w _ (.blk k) from hob) hb q3 hh hx hxd hke hkl (by omega) hone hsm
    exact KA.to_vec (h:=h.del id) this rfl rfl (fun h=>h) (Nat.le_refl _) (fun h=>h) rfl
  ·exact W.sat_fail
 ·exact W.sat_fail
theorem Gtv {ts:Array TypeId} {ty t t2 e:TypeId} {d2:TypeDesc} {i:TypeInfo} {zv:Value} {s x:AV} {a b:Value} {h:Hp}
  (h0:ts[0]?=some t) (h1:ts[1]?=some t2) (hu:P.underlying t=some (.slice e)) (hu2:P.underlying t2=some d2) (hi:P.info? e=some i) (hz:i.zero=some zv)
  (hs:GX μ ro w true s a) (hx:GX μ ro w true x b) (hh:GS μ ro h w):
  (Gu2 d2 e i zv s x h).sat fun r=>KA P (Builtin.append_ ts ty #[a,b]) μ ro w h.nx r.1 r.2:=by
 unfold Gu2
 split
 ·rename_i k n
  split
  ·rename_i hb
   simp only [Bool.and_eq_true,Bool.not_eq_true'] at hb
   cases hs
   cases hx
   have hs0:i.size≠0:=fun e=>by rw [e] at hb; simp at hb
   have hzs:=Nat.eq_of_beq_eq_true hb.2.2.2.2
   obtain ⟨cap,rest,q1,q2,q3⟩:=GpC (w:=w) (ty:=ty) h0 h1 hu hu2 hi hz (nB hb.1) (nB hb.2.1) (nB hb.2.2.1) hs0
   refine W.sat_pure (KA.grown (cs:=#[]) (rest:=rest) (cap:=cap) hh ?_ GR.nil q1 ?_)
   ·rw [Array.empty_append]; exact q3
   ·rw [Array.empty_append,q2,hzs]; exact Nat.le_refl _
  ·exact W.sat_fail
 ·exact W.sat_fail
theorem GqT {hn:Ht} {ts:Array TypeId} {ty:TypeId} {s x:AV} {a b:Value} {h:Hp} (hs:GX μ ro w true s a) (hx:GX μ ro w true x b) (hh:GS μ ro h w):
  (Go0 P hn ts s x h).sat fun r=>KA P (Builtin.append_ ts ty #[a,b]) μ ro w h.nx r.1 r.2:=by
 unfold Go0
 split
 ·rename_i t t2 h0 h1
  split
  ·rename_i e d2 hu hu2
   split
   ·rename_i i hi
    split
    ·rename_i zv hz
     split
     ·rename_i hb
      simp only [Bool.and_eq_true,Bool.not_eq_true'] at hb
      have hs0:i.size≠0:=fun e=>by rw [e] at hb; simp at hb
      have T:GvG P ts e i zv:=⟨⟨t,t2,d2,h0,h1,hu,hu2,hb.1⟩,hi,hz,nB hb.2.1,hs0,Nat.eq_of_beq_eq_true hb.2.2.2⟩
      exact W.sat_bind (W.sat_and (VS (P:=P) hx hh) (VS (P:=P) (w:=w.drew) hx.drew hh.drew)) fun y ⟨h1,h2⟩=>Gp2 T hs hh h1 h2
     ·exact Gtv h0 h1 hu hu2 hi hz hs hx hh
    ·exact W.sat_fail
   ·exact W.sat_fail
  ·exact W.sat_fail
 ·exact W.sat_fail
/-! ### copy -/
def Gu8 (P:Program) (hn:Ht) (ts:Array TypeId) (s x:AV) (h:Hp):W (AV×Hp):=
 match ts[0]? with
 | some t=>
  match P.underlying t with
  | some (.slice e)=>
   match Rs P e,s with
   | some z,.sl id off len cap ex z'=>
    (W.req false (z'=z)).bind fun _=>(GkU hn none h x z).bind fun y=>
    (W.req hn.sy (y.n≤len)).bind fun _=>(Gla hn.sy hn.sy h id off y.c y.pl).bind fun h'=>W.pure (.int .i64 y.n,h')
   | _,_=>W.fail
  | _=>W.fail
 | none=>W.fail
theorem GtF {hn:Ht} {ts:Array TypeId} {ty:TypeId} {s x:AV} {a b:Value} {h:Hp} (hs:GX μ ro w true s a) (hx:GX μ ro w true x b) (hh:GS μ ro h w):
  (Gu8 P hn ts s x h).sat fun r=>KA P (Builtin.copy_ ts ty #[a,b]) μ ro w h.nx r.1 r.2:=by
 unfold Gu8
 split
 ·rename_i t h0
  split
  ·rename_i e hu
   split
   ·rename_i z id off len cap ex z' hz
    obtain ⟨i,hi,hsz⟩:=Zx hz
    refine W.sat_bind W.sat_req fun _ hzz=>W.sat_bind (VS (P:=P) hx hh) fun y ⟨xs,h1,h2,h3,h4⟩=>W.sat_bind W.sat_req fun _ hle=>?_
    subst hzz; subst hsz
    cases hs with
    | sl hb hc1 hc2 hc3=>
     refine W.sat_bind (GdL (P:=P) hb h3 hh) fun h' ⟨w',h5,h6,h7⟩=>W.sat_pure ?_
     refine ⟨.int .i64 y.n,w',μ,?_,.refl _ _,.int,h6,h7⟩
     have hmin:Nat.min y.n len=y.n:=Nat.min_eq_left hle
     simp only [Builtin.copy_,h0,List.getElem?_toArray,List.getElem?_cons_zero,List.getElem?_cons_succ,Sem.run_bind,Gx hu,Result.andThen_ok,h1,Hw hi,hmin,h2,h5,Sem.run_pure,goInt]
   ·exact W.sat_fail
  ·exact W.sat_fail
 ·exact W.sat_fail
/-! ### clear of a slice -/
def GsB (P:Program) (hn:Ht) (ts:Array TypeId) (s:AV) (h:Hp):W (AV×Hp):=
 match ts[0]? with
 | some t=>
  match P.underlying t with
  | some (.slice e)=>
   match s with
   | .nils=>W.pure (.tup [],h)
   | .sl id off len cap ex z=>
    match Nat.beq len 0 with
    | true=>W.pure (.tup [],h)
    | false=>
     match P.info? e with
     | some i=>
      match i.zero with
      | some zv=>
       match !(cst zv).isAny&&Nat.beq (cst zv).cells.length i.size with
       | true=>(Gla hn.sy hn.sy h id off (GgC (cst zv).cells len) ((cst zv).cells.all AV.pl)).bind fun h'=>W.pure (.tup [],h')
       | false=>W.fail
      | none=>W.fail
     | none=>W.fail
   | _=>W.fail
  | _=>W.fail
 | none=>W.fail
theorem Gsv {hn:Ht} {ts:Array TypeId} {ty:TypeId} {s:AV} {a:Value} {h:Hp} (hs:GX μ ro w true s a) (hh:GS μ ro h w):
  (GsB P hn ts s h).sat fun r=>KA P (Builtin.clear_ ts ty #[a]) μ ro w h.nx r.1 r.2:=by
 unfold GsB
 split
 ·rename_i t h0
  split
  ·rename_i e hu
   split
   ·cases hs
    refine W.sat_pure ⟨.tuple #[],w,μ,?_,.refl _ _,GR.nil.tup,hh,Fr.refl _ _ _⟩
    simp only [Builtin.clear_,h0,List.getElem?_toArray,List.getElem?_cons_zero,Sem.run_bind,Gx hu,Result.andThen_ok,Sem.run_pure]
   ·rename_i id off len cap ex z
    split
    ·rename_i hb0
     have hl:=Nat.eq_of_beq_eq_true hb0
     subst hl
     cases hs with
     | sl hb hc1 hc2 hc3=>
      refine W.sat_pure ⟨.tuple #[],w,μ,?_,.refl _ _,GR.nil.tup,hh,Fr.refl _ _ _⟩
      simp only [Builtin.clear_,h0,List.getElem?_toArray,List.getElem?_cons_zero,Sem.run_bind,Gx hu,Result.andThen_ok,Sem.run_pure]
    ·rename_i hb0
     have hl:len≠0:=fun e=>by rw [e] at hb0; cases hb0
     split
     ·rename_i i hi
      split
      ·rename_i zv hz
       split
       ·rename_i hb1
        simp only [Bool.and_eq_true,Bool.not_eq_true'] at hb1
        cases hs with
        | sl hb hc1 hc2 hc3=>
         have hzl:=Nat.eq_of_beq_eq_true hb1.2
         have hzr:=(Qi (μ:=μ) (ro:=ro) (w:=w) (o:=true) zv).cells (AV.not_any (by simpa using hb1.1))
         have hzr':GR μ ro w (!(cst zv).cells.all AV.pl) (cst zv).cells zv.cells.toList:=hzr.plx
         have hze:zv.cells.size=(cst zv).cells.length:=by have:=hzr.1; simpa using this
         have hreps:GR μ ro w (!(cst zv).cells.all AV.pl) (GgC (cst zv).cells len) (Builtin.zeroCells zv.cells len).toList:=Gix hzr' len (len*zv.cells.size) (by rw [hze])
         refine W.sat_bind (GdL (P:=P) hb hreps hh) fun h' ⟨w',h5,h6,h7⟩=>W.sat_pure ⟨.tuple #[],w',μ,?_,.refl _ _,GR.nil.tup,h6,h7⟩
         obtain ⟨m,rfl⟩:=Nat.exists_eq_succ_of_ne_zero hl
         simp only [Builtin.clear_,h0,List.getElem?_toArray,List.getElem?_cons_zero,Sem.run_bind,Gx hu,Result.andThen_ok,Sem.run_pure,Yz hi hz,h5]
       ·exact W.sat_fail
      ·exact W.sat_fail
     ·exact W.sat_fail
   ·exact W.sat_fail
  ·exact W.sat_fail
 ·exact W.sat_fail
end
noncomputable section
open Go.RowKit
variable {P:Program} {μ μ':Nat→Option HI} {ro ro':Nat→Prop} {w w':World}
def GqU:List AV→Option (List UInt8)
 | []=>some []
 | .int .u8 n::l=>(GqU l).map (UInt8.ofNat n.toNat :: ·)
 | _=>none
theorem GuN (bs:List UInt8):GqU (Jo bs)=some bs:=by
 induction bs with
 | nil=>rfl
 | cons b bs ih=>
  show (GqU (Jo bs)).map (UInt8.ofNat ((b.toNat:Int)).toNat :: ·)=_
  rw [ih]
  simp
def GrD (hn:Ht) (c:List AV):W (List UInt8):=
 match hn with
 | .by bs=>(W.owe (c=Jo bs)).bind fun _=>W.pure bs
 | _=>W.of (GqU c)
theorem GrC {hn:Ht} {c:List AV}:(GrD hn c).sat fun bs=>GqU c=some bs:=by
 unfold GrD
 split
 ·exact W.sat_bind W.sat_owe fun _ h=>W.sat_pure (by rw [h,GuN])
 ·exact W.sat_of fun _ h=>h
theorem Gon {o:Bool}:∀ (c:List AV) (bs:List UInt8) (xs:List Value),GqU c=some bs→GR μ ro w o c xs→
  ∃ ns:List Int,xs=ns.map (Value.int .u8)∧bs=ns.map fun n=>UInt8.ofNat n.toNat
 | [],bs,xs,h,hr=>by
  have:xs=[]:=List.length_eq_zero_iff.1 (by simpa using hr.1)
  subst this
  simp only [GqU,sJ] at h
  subst h
  exact ⟨[],rfl,rfl⟩
 | v::c,bs,xs,h,hr=>by
  obtain ⟨x,xs',rfl,h1,h2⟩:=hr.head
  unfold GqU at h
  split at h
  ·rename_i h'; cases h'
  ·rename_i n l h'
   simp only [List.cons.injEq] at h'
   obtain ⟨rfl,rfl⟩:=h'
   simp only [Option.map_eq_some_iff] at h
   obtain ⟨bs',hb,rfl⟩:=h
   cases h1
   obtain ⟨ns,rfl,rfl⟩:=Gon _ bs' xs' hb h2
   exact ⟨n::ns,rfl,rfl⟩
  ·cases h
theorem Goe:∀ (ns:List Int) (s:ByteArray),ns.foldl (fun r n=>r.push (UInt8.ofNat n.toNat)) s=⟨s.data++(ns.map fun n=>UInt8.ofNat n.toNat).toArray⟩
 | [],s=>by simp
 | n::ns,s=>by
  rw [List.foldl_cons,Goe ns]
  simp [ByteArray.push]
def AV.isSl:AV→Bool
 | .sl .. | .lst .. | .nils | .vec ..=>true
 | _=>false
def GuK (P:Program) (hn:Ht) (src dst:TypeId) (x:AV) (h:Hp):W (AV×Hp):=
 match P.underlying src,P.underlying dst,x with
 | some _,some (.int k),.int _ n=>(Gnn hn k n).bind fun v=>W.pure (v,h)
 | some .string,some .string,.str s=>W.pure (.str s,h)
 | some (.slice e),some .string,x=>
  match P.underlying e,x.isSl with
  | some (.int .u8),true=>(GkU hn none h x 1).bind fun y=>(GrD hn y.c).bind fun bs=>W.pure (.str bs,h)
  | _,_=>W.fail
 | some .string,some (.slice e),.str s=>
  match P.underlying e with
  | some (.int .u8)=>W.pure (.sl h.nx 0 s.length s.length false 1,h.new (.blk ⟨Jo s,e,true,0,true,false,none⟩))
  | _=>W.fail
 | _,_,_=>W.fail
theorem GtV {e:TypeId} {s:List UInt8} {b:ByteArray} {h:Hp} (hb:b.data.toList=s) (hh:GS μ ro h w):
  KA P (Conv.stringToBytes e b) μ ro w h.nx (.sl h.nx 0 s.length s.length false 1) (h.new (.blk ⟨Jo s,e,true,0,true,false,none⟩)):=by
 have hlen:s.length=b.size:=by rw [← hb,Rb]
 let cap:=(Question.appendCap b.size 0 e).cut (w.tape w.drawn (.appendCap b.size 0 e))
 have hcap:b.size≤cap:=by simp [cap,Question.cut]
 let elems:Array Value:=b.data.map fun b=>.int .u8 b.toNat
 let cs:=elems++Array.replicate (cap - b.size) (.int .u8 0)
 have hes:elems.size=b.size:=Array.size_map ..
 have hcs:cs.size=cap:=by simp [cs,hes]; omega
 have hd:=hh.drew
 have hreps:=GqM (μ:=μ) (ro:=ro) (w:=w.drew) hb false
 obtain ⟨h1,h2⟩:=Gne (cs:=cs) (e:=e) (k:=⟨Jo s,e,true,0,true,false,none⟩) hd rfl (by simp [Jo,hlen,hcs]; exact hcap) (fun h=>by cases h) (fun i hi=>by
  have:=hreps.2 i hi
  rw [G0 elems] at this
  have hi2:i<elems.size:=by rw [hes,← hlen]; simpa [Jo] using hi
  rwa [Gqj _ _ _ _ hi2])
 have hsize:(w.drew.alloc (.cells cs e)).heap[w.heap.size]?=some (.cells cs e):=ZY w.drew _
 have hfz:((w.drew.alloc (.cells cs e)).freeze ⟨w.heap.size,cap,none⟩ 1).heap[w.heap.size]?=some (.cells cs e (cap,cap+1)):=by
  simp only [World.freeze,if_neg (show ¬ (1:Nat)=0 by omega),Array.getElem?_modify,if_true,hsize,Option.map_some]
  rfl
 have hoth:∀ j,j≠w.heap.size→((w.drew.alloc (.cells cs e)).freeze ⟨w.heap.size,cap,none⟩ 1).heap[j]?=(w.drew.alloc (.cells cs e)).heap[j]?:=fun j hj=>by
  simp only [World.freeze,if_neg (show ¬ (1:Nat)=0 by omega),Array.getElem?_modify,if_neg (Ne.symm hj)]
 have hsz:((w.drew.alloc (.cells cs e)).freeze ⟨w.heap.size,cap,none⟩ 1).heap.size=(w.drew.alloc (.cells cs e)).heap.size:=by
  simp [World.freeze]
 have hrun:(Conv.stringToBytes e b).run P w=.ok (.slice (some ⟨w.heap.size,0,none⟩) b.size cap) ((w.drew.alloc (.cells cs e)).freeze ⟨w.heap.size,cap,none⟩ 1):=by
  have hch:(choose (.appendCap b.size 0 e)).run P w=.ok cap w.drew:=by rw [run_choose]; rfl
  have hshape:(w.drew.alloc (.cells cs e)).shape? w.heap.size=some (e,cap):=by
   simp only [World.shape?,hsize,hcs]
  have e1:(newRow e cs).run P w.drew=.ok ⟨w.heap.size,0,none⟩ (w.drew.alloc (.cells cs e)):=by simp [newRow,Result.andThen]; rfl
  have e2:(markStringish ⟨w.heap.size,0,none⟩).run P (w.drew.alloc (.cells cs e))=.ok () ((w.drew.alloc (.cells cs e)).freeze ⟨w.heap.size,cap,none⟩ 1):=by
   simp [markStringish,hshape,Result.andThen]
  simp only [Conv.stringToBytes,Sem.run_bind,hch,Result.andThen_ok]
  have e1':(newRow e ((Array.map (fun b=>Value.int IntKind.u8 (b.toNat:Int)) b.data)++Array.replicate (cap - b.size) (.int .u8 0))).run P w.drew=.ok ⟨w.heap.size,0,none⟩ (w.drew.alloc (.cells cs e)):=e1
  rw [e1']
  simp only [Result.andThen_ok,e2,Sem.run_pure]
 have hro:∀ j,ro j→((w.drew.alloc (.cells cs e)).freeze ⟨w.heap.size,cap,none⟩ 1).heap[j]?=(w.drew.alloc (.cells cs e)).heap[j]?:=fun j hj=>hoth j (Nat.ne_of_lt (hh.old j hj))
 rw [← hlen] at hrun
 refine ⟨.slice (some ⟨w.heap.size,0,none⟩) s.length cap,_,upd μ h.nx (w.heap.size,cs.size),hrun,Kj _ _,.sl (J4 _ _) (Nat.le_trans (Nat.le_of_eq hlen) hcap) (fun h=>by cases h) (by simp [hcs]),?_,?_⟩
 ·refine ⟨fun i k hk=>?_,h1.inj,h1.own,fun i b hb=>by rw [hsz]; exact h1.lt i b hb,fun b hb=>by rw [hsz]; exact h1.old b hb,h1.nx⟩
  refine (h1.obs i k hk).imp_left fun ⟨l,hl,hob⟩=>⟨l,hl,?_⟩
  by_cases e3:l.1=w.heap.size
  ·have ei:i=h.nx:=h1.inj i h.nx k (.blk ⟨Jo s,e,true,0,true,false,none⟩) l _ hk (by simp [Hp.new,Tr.get_put]) hl (J4 _ _) e3
   subst ei
   simp only [Hp.new,Tr.get_put,if_true,sJ] at hk
   subst hk
   rw [J4] at hl
   simp only [sJ] at hl
   subst hl
   obtain ⟨cs',fr,g1,g0,g2,g3,g4,g5⟩:=hob.get
   have g1':=hsize.symm.trans g1
   simp only [sJ,Obj.cells.injEq] at g1'
   replace g1:=g1'
   obtain ⟨rfl,_,_⟩:=g1
   exact ⟨⟨cs,_,hfz,g0,g2,g3,fun i h1 h2=>.inr (by omega),fun i hi=>(g5 i hi).mono (fun _ _ h=>h) (fun _ h=>h) hro⟩⟩
  ·exact hob.mono (fun _ _ h=>h) (fun _ h=>h) hro (hoth _ e3)
 ·exact ((Fr.drew μ ro w).trans h2 (fun _ h=>h)).trans (ro':=ro) (Fr.write (b:=(w.heap.size,cs.size)) (J4 _ _) rfl rfl rfl hsz (fun hr=>Nat.lt_irrefl _ (hh.old _ hr)) hoth) (fun _ h=>h)
theorem Gt4 {hn:Ht} {src dst:TypeId} {x:AV} {a:Value} {h:Hp} (hx:GX μ ro w true x a) (hh:GS μ ro h w):
  (GuK P hn src dst x h).sat fun r=>KA P (convert src dst a) μ ro w h.nx r.1 r.2:=by
 unfold GuK
 split
 ·rename_i d k k' n hu hu2
  cases hx
  refine W.sat_bind MY fun v hv=>W.sat_pure ?_
  subst hv
  refine KA.of_pure (v':=.int k (k.wrap n)) ?_ .int hh
  simp only [convert,Sem.run_bind,Gx hu,Gx hu2,Result.andThen_ok]
  cases d <;> rfl
 ·rename_i s hu hu2
  have hx':=hx
  cases hx
  refine W.sat_pure (KA.of_pure ?_ hx' hh)
  simp only [convert,Sem.run_bind,Gx hu,Gx hu2,Result.andThen_ok]
  rfl
 ·rename_i e hu hu2
  split
  ·rename_i hue hsl
   refine W.sat_bind (VS (P:=P) hx hh) fun y ⟨xs,h1,h2,h3,h4⟩=>W.sat_bind GrC fun bs hbs=>W.sat_pure ?_
   refine KA.of_pure (v':=.string ⟨bs.toArray⟩) ?_ (.str (by simp)) hh
   obtain ⟨ns,hxs,rfl⟩:=Gon _ _ _ hbs h3
   have fin:∀ (ad:Option Addr) (len cap:Nat),a=.slice ad len cap→(convert src dst a).run P w=.ok (.string ⟨(ns.map fun n=>UInt8.ofNat n.toNat).toArray⟩) w:=by
    intro ad len cap ha
    subst ha
    rw [run_convert_bytes_string w src dst e ad len cap hu hue hu2]
    have hl:=h1 w
    simp only [Builtin.lenOf,Sem.run_pure,Result.ok.injEq,and_true] at hl
    cases ad with
    | none=>
     simp only [Builtin.firstCells,Sem.run_pure,Result.ok.injEq,and_true] at h2
     subst h2
     have:ns=[]:=by simpa using hxs
     subst this
     rfl
    | some ad=>
     have h5:(loadCells ad len).run P w=.ok (ns.map (Value.int .u8)).toArray w:=by
      have e1:(Builtin.firstCells 1 y.n (.slice (some ad) len cap))=loadCells ad len:=by rw [← hl]; simp [Builtin.firstCells]
      rw [e1] at h2
      rw [h2,← hxs]
     rw [run_bytesToString w ad len cap ns h5,Goe]
     simp
   cases hx <;> simp only [AV.isSl,Bool.false_eq_true] at hsl
   all_goals exact fin _ _ _ rfl
  ·exact W.sat_fail
 ·rename_i e s hu hu2
  split
  ·rename_i hue
   cases hx with
   | str hs=>
    rename_i b
    obtain ⟨v',w',μ',h1,h2⟩:=GtV (P:=P) (e:=e) hs hh
    refine W.sat_pure ⟨v',w',μ',?_,h2⟩
    simp only [convert,Sem.run_bind,Gx hu,Gx hu2,Result.andThen_ok,Gx hue]
    exact h1
  ·exact W.sat_fail
 ·exact W.sat_fail
/-! ### lengths -/
def GvW (P:Program) (ts:Array TypeId) (x:AV):Option AV:=
 match ts[0]? with
 | some t=>
  match P.underlying t,x with
  | some .string,.str s=>some (.int .i64 (s.length:Int))
  | some (.array n _),_=>some (.int .i64 (n:Int))
  | some (.slice _),.sl _ _ len _ _ _=>some (.int .i64 (len:Int))
  | some (.slice _),.vec _ n _=>some (.int .i64 (n:Int))
  | some (.slice _),.lst _ n=>some (.int .i64 (n:Int))
  | some (.slice _),.nils=>some (.int .i64 0)
  | some (.slice _),.nen=>some (.int .i64 0)
  | _,_=>none
 | none=>none
theorem GuO {ts:Array TypeId} {ty:TypeId} {x v:AV} {a:Value} (h:GvW P ts x=some v) (hx:GX μ ro w true x a):
  ∃ v',(∀ w,(Builtin.len_ ts ty #[a]).run P w=.ok v' w)∧GX μ ro w true v v':=by
 unfold GvW at h
 split at h
 ·rename_i t h0
  split at h <;> simp only [sJ,reduceCtorEq] at h <;> subst h <;> rename_i hu
  ·cases hx with
   | str hs=>
    rename_i b
    refine ⟨_,fun w=>?_,.int⟩
    simp only [Builtin.len_,h0,List.getElem?_toArray,List.getElem?_cons_zero,Sem.run_bind,Gx hu,Result.andThen_ok,← hs,Rb]
    rfl
  ·refine ⟨_,fun w=>?_,.int⟩
   simp only [Builtin.len_,h0,List.getElem?_toArray,List.getElem?_cons_zero,Sem.run_bind,Gx hu,Result.andThen_ok]
   rfl
  all_goals
   cases hx <;>
   (refine ⟨_,fun w=>?_,.int⟩
    simp only [Builtin.len_,h0,List.getElem?_toArray,List.getElem?_cons_zero,Sem.run_bind,Gx hu,Result.andThen_ok]
    rfl)
 ·cases h
def Gv4 (P:Program) (ts:Array TypeId) (x:AV):Option AV:=
 match ts[0]? with
 | some t=>
  match P.underlying t,x with
  | some (.slice _),.sl _ _ _ cap true _=>some (.int .i64 (cap:Int))
  | some (.slice _),.nils=>some (.int .i64 0)
  | _,_=>none
 | none=>none
theorem Gvc {ts:Array TypeId} {ty:TypeId} {x v:AV} {a:Value} (h:Gv4 P ts x=some v) (hx:GX μ ro w true x a):
  ∃ v',(∀ w,(Builtin.cap_ ts ty #[a]).run P w=.ok v' w)∧GX μ ro w true v v':=by
 unfold Gv4 at h
 split at h
 ·rename_i t h0
  split at h <;> simp only [sJ,reduceCtorEq] at h <;> subst h <;> rename_i hu
  ·cases hx with
   | sl hb h1 h2 h3=>
    refine ⟨_,fun w=>?_,.int⟩
    simp only [Builtin.cap_,h0,List.getElem?_toArray,List.getElem?_cons_zero,Sem.run_bind,Gx hu,Result.andThen_ok,h2 rfl]
    rfl
  ·cases hx
   refine ⟨_,fun w=>?_,.int⟩
   simp only [Builtin.cap_,h0,List.getElem?_toArray,List.getElem?_cons_zero,Sem.run_bind,Gx hu,Result.andThen_ok]
   rfl
 ·cases h
def Gw2 (hn:Ht) (x y:AV):W AV:=
 match x,y with
 | .int k a,.int _ b=>Gre hn k (if b<a then b else a)
 | _,_=>W.fail
def GwD (hn:Ht) (x y:AV):W AV:=
 match x,y with
 | .int k a,.int _ b=>Gre hn k (if b>a then b else a)
 | _,_=>W.fail
theorem GuW {hn:Ht} {ts:Array TypeId} {ty:TypeId} {x y:AV} {a b:Value} {o o':Bool} (hx:GX μ ro w o x a) (hy:GX μ ro w o' y b):(Gw2 hn x y).sat fun v=>Gj0 P (Builtin.min_ ts ty #[a,b]) v:=by
 unfold Gw2
 split
 ·cases hx; cases hy
  exact W.sat_mono Gdg fun v hv=>⟨_,fun w=>by simp [Builtin.min_,Builtin.min2]; rfl,fun _ _ _ _=>by subst hv; exact .int⟩
 ·exact W.sat_fail
def GuL (hn:Ht) (x y z:AV):W AV:=
 match x,y,z with
 | .int k a,.int _ b,.int _ c=>Gre hn k (if c<(if b<a then b else a) then c else (if b<a then b else a))
 | _,_,_=>W.fail
def GuH (hn:Ht) (x y z:AV):W AV:=
 match x,y,z with
 | .int k a,.int _ b,.int _ c=>Gre hn k (if c>(if b>a then b else a) then c else (if b>a then b else a))
 | _,_,_=>W.fail
theorem Gt7 {hn:Ht} {ts:Array TypeId} {ty:TypeId} {x y z:AV} {a b c:Value} {o o' o2:Bool} (hx:GX μ ro w o x a) (hy:GX μ ro w o' y b) (hz:GX μ ro w o2 z c):(GuL hn x y z).sat fun v=>Gj0 P (Builtin.min_ ts ty #[a,b,c]) v:=by
 unfold GuL
 split
 ·cases hx; cases hy; cases hz
  exact W.sat_mono Gdg fun v hv=>⟨_,fun w=>by simp [Builtin.min_,Builtin.min2]; rfl,fun _ _ _ _=>by subst hv; exact .int⟩
 ·exact W.sat_fail
theorem GtX {hn:Ht} {ts:Array TypeId} {ty:TypeId} {x y z:AV} {a b c:Value} {o o' o2:Bool} (hx:GX μ ro w o x a) (hy:GX μ ro w o' y b) (hz:GX μ ro w o2 z c):(GuH hn x y z).sat fun v=>Gj0 P (Builtin.max_ ts ty #[a,b,c]) v:=by
 unfold GuH
 split
 ·cases hx; cases hy; cases hz
  exact W.sat_mono Gdg fun v hv=>⟨_,fun w=>by simp [Builtin.max_,Builtin.max2]; rfl,fun _ _ _ _=>by subst hv; exact .int⟩
 ·exact W.sat_fail
theorem Guy {hn:Ht} {ts:Array TypeId} {ty:TypeId} {x y:AV} {a b:Value} {o o':Bool} (hx:GX μ ro w o x a) (hy:GX μ ro w o' y b):(GwD hn x y).sat fun v=>Gj0 P (Builtin.max_ ts ty #[a,b]) v:=by
 unfold GwD
 split
 ·cases hx; cases hy
  exact W.sat_mono Gdg fun v hv=>⟨_,fun w=>by simp [Builtin.max_,Builtin.max2]; rfl,fun _ _ _ _=>by subst hv; exact .int⟩
 ·exact W.sat_fail
/-! ### interface values, functions, nil checks -/
def Gpd (P:Program) (t:TypeId) (x:AV):Option AV:=
 match P.underlying t with
 | some (.interface _)=>none
 | some _=>some (.ifc t x)
 | none=>none
theorem Gr3 {t:TypeId} {x v:AV} {a:Value} {o:Bool} (h:Gpd P t x=some v) (hx:GX μ ro w o x a):∃ v',(∀ w,(Instr.makeInterface t a).run P w=.ok v' w)∧GX μ ro w o v v':=by
 unfold Gpd at h
 split at h
 ·cases h
 ·rename_i d hne hu
  simp only [sJ] at h
  subst h
  refine ⟨.iface t a,fun w=>?_,.ifc hx⟩
  simp only [Instr.makeInterface,Sem.run_bind,Gx hu,Result.andThen_ok]
  rfl
 ·cases h
/-! ### ranges over strings -/
def GpQ (P:Program) (t:TypeId) (x:AV) (h:Hp):Option (AV×Hp):=
 match P.underlying t,x with
 | some .string,.str s=>some (.ptr h.nx 0,h.new (.iter s 0))
 | some (.map _ _),.mapr id=>match h.m.get id with | some (.rm m _ _ _ cl)=>some (.ptr h.nx 0,h.new (.mit m cl [] cl)) | some (.map _ [])=>some (.ptr h.nx 0,h.new (.mie id)) | _=>none
 | _,_=>none
theorem Gqs {t:TypeId} {x:AV} {a:Value} {h:Hp} {r:AV×Hp} (ha:GpQ P t x h=some r) (hx:GX μ ro w true x a) (hh:GS μ ro h w):KA P (Instr.range t a) μ ro w h.nx r.1 r.2:=by
 unfold GpQ at ha
 split at ha
 ·rename_i s hu
  simp only [sJ] at ha
  subst ha
  cases hx with
  | str hs=>
   rename_i b
   refine ⟨.pointer (some ⟨w.heap.size,0,none⟩),w.alloc (.stringIter b 0),upd μ h.nx (w.heap.size,0),?_,Kj _ _,.ptr (J4 _ _),hh.new _ _ _ ⟨b,ZY w _,hs⟩,Fr.alloc hh _ _⟩
   simp only [Instr.range,Sem.run_bind,Gx hu,Result.andThen_ok,Sem.run_pure,run_newObj]
   rfl
 ·rename_i id hu
  split at ha
  ·rename_i m kd es ms cl hm
   simp only [sJ] at ha
   subst ha
   cases hx with
   | mapr hb=>
    rename_i b
    obtain ⟨g0,g1, -⟩:Gns μ ro w b m kd es ms cl:=hh.obsM id _ _ hm hb
    rw [g0] at g1
    have hg:(getObj m).run P w=.ok (.map ms.toArray cl) w:=by simp [getObj,Sem.run,g1]
    refine ⟨.pointer (some ⟨w.heap.size,0,none⟩),w.alloc (.mapIter (some m) cl #[] cl),upd μ h.nx (w.heap.size,0),?_,Kj _ _,.ptr (J4 _ _),hh.new _ _ _ (ZY w _),Fr.alloc hh _ _⟩
    simp only [Instr.range,Sem.run_bind,Gx hu,g0,hg,Result.andThen_ok,Sem.run_pure,run_newObj]
    rfl
  ·rename_i kd hm
   simp only [sJ] at ha
   subst ha
   cases hx with
   | mapr hb=>
    rename_i b
    obtain ⟨ms,cl,p,g1, -⟩:Z0 μ ro w b kd []:=hh.obsM id _ _ hm hb
    have hg:(getObj b.1).run P w=.ok (.map ms cl) w:=by simp [getObj,Sem.run,g1]
    refine ⟨.pointer (some ⟨w.heap.size,0,none⟩),w.alloc (.mapIter (some b.1) cl #[] cl),upd μ h.nx (w.heap.size,0),?_,Kj _ _,.ptr (J4 _ _),hh.new _ _ _ ⟨b,cl,#[],Gfu hh _ _ _ hb,ZY w _⟩,Fr.alloc hh _ _⟩
    simp only [Instr.range,Sem.run_bind,Gx hu,hg,Result.andThen_ok,Sem.run_pure,run_newObj]
    rfl
  ·cases ha
 ·cases ha
def GuA (hn:Ht) (s:List UInt8) (pos:Nat):W (Nat×Nat):=
 match hn with
 | .m c wd=>(W.owe (Utf8.decode ⟨s.toArray⟩ pos=(c,wd))).bind fun _=>W.pure (c,wd)
 | _=>W.pure (Utf8.decode ⟨s.toArray⟩ pos)
theorem Guj {hn:Ht} {s:List UInt8} {pos:Nat}:(GuA hn s pos).sat fun r=>r=Utf8.decode ⟨s.toArray⟩ pos:=by
 unfold GuA
 split
 ·exact W.sat_bind W.sat_owe fun _ h=>W.sat_pure h.symm
 ·exact W.sat_pure rfl
def Gw5 (hn:Ht) (s:List UInt8) (pos:Nat):Bool:=
 match hn with
 | .b β=>β
 | .m _ _=>true
 | _=>Nat.blt pos s.length
def Gut (hn:Ht) (isStr:Bool) (x:AV) (h:Hp):W (AV×Hp):=
 match x,isStr with
 | .ptr id 0,true=>
  match h.m.get id with
  | some (.iter s pos)=>
   match Gw5 hn s pos with
   | true=>(W.req hn.sy (pos<s.length)).bind fun _=>(GuA hn s pos).bind fun r=>W.pure (.tup [.bool true,.int .i64 (pos:Int),.int .i32 (r.1:Int)],h.set id (.iter s (pos+r.2)))
   | false=>(W.req hn.sy (¬ pos<s.length)).bind fun _=>W.pure (.tup [.bool false],h)
  | _=>W.fail
 | .ptr id 0,false=>
  match h.m.get id with
  | some (.mie mid)=>match h.m.get mid with | some (.map _ [])=>W.pure (.tup [.bool false],h) | _=>W.fail
  | _=>W.fail
 | _,_=>W.fail
theorem Gum {hn:Ht} {isStr:Bool} {x:AV} {a:Value} {ty:TypeId} {h:Hp} (hx:GX μ ro w true x a) (hh:GS μ ro h w):(Gut hn isStr x h).sat fun r=>KA P (Instr.next a isStr ty) μ ro w h.nx r.1 r.2:=by
 unfold Gut
 split
 ·rename_i id
  split
  ·rename_i s pos hk
   cases hx with
   | ptr hb=>
    rename_i b
    have hob:=hh.obsM id _ _ hk hb
    obtain ⟨t,h1,h2⟩:=hob
    have hlen:s.length=t.size:=by rw [← h2,Rb]
    have ht:(⟨s.toArray⟩:ByteArray)=t:=by rw [← h2]
    have hget:∀ w:World,w.heap[b.1]?=some (.stringIter t pos)→(getObj b.1).run P w=.ok (.stringIter t pos) w:=fun w h=>by simp [getObj,Sem.run,h]
    split
    ·refine W.sat_bind W.sat_req fun _ hlt=>W.sat_bind Guj fun r hr=>W.sat_pure ?_
     subst hr
     rw [ht]
     rw [hlen] at hlt
     let w1:World:={ w with heap:=w.heap.setIfInBounds b.1 (.stringIter t (pos+(Utf8.decode t pos).2)) }
     have hw1:∀ j,j≠b.1→w1.heap[j]?=w.heap[j]?:=fun j hj=>by
      simp only [w1]
      rw [Array.getElem?_setIfInBounds_ne (Ne.symm hj)]
     have hw2:w1.heap[b.1]?=some (.stringIter t (pos+(Utf8.decode t pos).2)):=by
      have hlt:=hh.lt id b hb
      simp only [w1]
      rw [Array.getElem?_setIfInBounds_self_of_lt hlt]
     have hsz:w1.heap.size=w.heap.size:=by simp [w1]
     have hset:(setObj b.1 (.stringIter t (pos+(Utf8.decode t pos).2))).run P w=.ok () w1:=by simp [setObj,Sem.run,h1,w1]
     have hro:∀ j,ro j→w1.heap[j]?=w.heap[j]?:=fun j hj=>hw1 j (fun e=>hh.own id _ b hk hb (e ▸ hj))
     refine ⟨.tuple #[.bool true,goInt pos,.int .i32 (Utf8.decode t pos).1],w1,μ,?_,.refl _ _,?_,?_,Fr.write hb rfl rfl rfl hsz (hh.own id _ b hk hb) hw1⟩
     ·simp only [Instr.next,Sem.run_bind,hget w h1,Result.andThen_ok,if_pos hlt,hset,Sem.run_pure]
     ·exact (GR.cons .bool (GR.cons .int (GR.cons .int GR.nil))).tup
     ·exact hh.set hk hb (Nat.le_of_eq hsz.symm) (fun j hj _=>hw1 j hj) ⟨t,hw2,h2⟩
    ·refine W.sat_bind W.sat_req fun _ hlt=>W.sat_pure ?_
     rw [hlen] at hlt
     refine KA.of_pure (v':=.tuple #[.bool false]) ?_ (GR.cons .bool GR.nil).tup hh
     simp only [Instr.next,Sem.run_bind,hget w h1,Result.andThen_ok,if_neg hlt,Sem.run_pure]
  ·exact W.sat_fail
 ·rename_i id
  split
  ·rename_i mid hk
   split
   ·rename_i kd hm
    cases hx with
    | ptr hb=>
     rename_i b
     obtain ⟨l,c,seen,h1,h2⟩:=hh.obsM id _ _ hk hb
     obtain ⟨ms,cl,p,g1,g2,g3, -⟩:Z0 μ ro w l kd []:=hh.obsM mid _ _ hm h1
     have hp:p=[]:=by cases g3; rfl
     subst hp
     have hms:ms=#[]:=by
      have:=g2.length_eq
      simp at this
      exact Array.eq_empty_of_size_eq_zero this.symm
     subst hms
     refine W.sat_pure (KA.of_pure (v':=.tuple #[.bool false]) ?_ (GR.cons .bool GR.nil).tup hh)
     rcases Go.run_next_at (P:=P) w ty b.1 l.1 c c seen #[] cl h2 g1 (by simp) (Nat.le_refl _) with ⟨_,h4⟩ | ⟨e,he,_⟩
     ·exact h4
     ·simp [leftOf] at he
   ·exact W.sat_fail
  ·exact W.sat_fail
 ·exact W.sat_fail
end
end Go.Proofs.YtnlaiahcemckkaaGreatDoor.Av
