import Derived.Test.YtdifanfcaemokaaGreatDoorAvLo
open Prod (fst)
open Int (tdiv tmod)
set_option linter.unusedVariables false
namespace Go.Proofs.YtdifanfcaemokaaGreatDoor.Av
noncomputable section
open Go Go.Proofs
theorem ke0:Kl Tryz.prog GT 8 17 [.agg [.sl 0 0 1 1 true 3,.nils,.sl 1 0 1 1 true 3,.sl 2 0 1 1 true 6,.nils,.nils,xi 10,xi 0,.sl 3 0 1 1 true 4,xi 60,.nils,.nils,.sl 4 0 1 1 true 1,.nils,.nils,.nils,.nils,.nils,.nils,.nils,.sl 5 0 4 4 true 1,.sl 6 0 4 4 true 1,xi 100,.nils,.str [97]]] [xb [.str [111],xi 1,.str [109]] 144 true,xb [.str [109],.bool false,xi 3600] 146 true,xb [.str [99,49],.str [111],xi 2,xi 1,.nils,.nils] 77 true,xb [xi 0,xi 900000,.nils,.sl 7 0 1 1 true 5] 83 false,xb [xi 1000] 3 true,xb [xi 1,xi 1,xi 1,xi 1] 3 true,xb [xi 0,xi 0,xi 0,xi 0] 3 true,xb [.str [111],.str [],xi 1,.str [],xi 400] 148 true]
  (xi 0) [xb [.str [111],xi 1,.str [109]] 144 true,xb [.str [109],.bool false,xi 3600] 146 true,xb [.str [99,49],.str [111],xi 2,xi 1,.nils,.nils] 77 true,xb [xi 0,xi 900000,.nils,.sl 7 0 1 1 true 5] 83 false,xb [xi 1000] 3 true,xb [xi 1,xi 1,xi 1,xi 1] 3 true,xb [xi 0,xi 0,xi 0,xi 0] 3 true,xb [.str [111],.str [],xi 1,.str [],xi 400] 148 true]:=
 Kl.of_run (GlL _ _) 8 100000 [0,1,2,3,4,5,6,7] (by kernel_rfl)
theorem ke1:Kl Tryz.prog GT 0 17 [.agg [.nils,.nils,.nils,.nils,.nils,.nils,xi 0,xi 0,.nils,xi 0,.nils,.nils,.nils,.nils,.nils,.nils,.nils,.nils,.nils,.nils,.nils,.nils,xi 0,.nils,.str []]] []
  (xi 1) []:=
 Kl.of_run (GlL _ _) 0 100000 [] (by kernel_rfl)
theorem ke2:Kl Tryz.prog GT 9 260 [.agg [.sl 0 0 1 1 false 3,.nils,.sl 1 0 1 1 false 3,.sl 2 0 1 1 false 6,.nils,.nils,xi 10,xi 0,.sl 3 0 1 1 false 4,xi 60,.nils,.nils,.sl 4 0 1 1 false 1,.nils,.nils,.nils,.nils,.nils,.nils,.nils,.sl 5 0 4 4 false 1,.sl 6 0 4 4 false 1,xi 100,.nils,.str [97]],.sl 7 0 1 1 false 11] [xe [.str [111],xi 1,.str [109]] 144 true,xe [.str [109],.bool false,xi 3600] 146 true,xe [.str [99,49],.str [111],xi 2,xi 1,.nils,.nils] 77 true,xe [xi 0,xi 900000,.nils,.sl 8 0 1 1 false 5] 83 false,xe [xi 1000] 3 true,xe [xi 1,xi 1,xi 1,xi 1] 3 true,xe [xi 0,xi 0,xi 0,xi 0] 3 true,xe [.str [99,49],xi 5,xi 100,.str [],.str [65,66,49,50],xi 0,xi 1000,xi 100,.str [111],xi 1,xi 2] 210 true,xe [.str [111],.str [],xi 1,.str [],xi 400] 148 true]
  (.tup [.sl 9 0 1 1 false 8,.nils]) [xe [.str [111],xi 1,.str [109]] 144 true,xe [.str [109],.bool false,xi 3600] 146 true,xe [.str [99,49],.str [111],xi 2,xi 1,.nils,.nils] 77 true,xe [xi 0,xi 900000,.nils,.sl 8 0 1 1 false 5] 83 false,xe [xi 1000] 3 true,xe [xi 1,xi 1,xi 1,xi 1] 3 true,xe [xi 0,xi 0,xi 0,xi 0] 3 true,xe [.str [99,49],xi 5,xi 100,.str [],.str [65,66,49,50],xi 0,xi 1000,xi 100,.str [111],xi 1,xi 2] 210 true,xe [.str [111],.str [],xi 1,.str [],xi 400] 148 true,xe [.str [99,49,46,53],.str [111],xi 100,.str [],.str [65,66,49,50],xi 1,xi 1000,.sl 10 0 1 1 false 2] 290 false,xe [.str [99,49],xi 5] 317 true]:=
 Kl.of_run (GlL _ _) 9 100000 [0,1,2,3,4,5,6,7,8,178,173] (by kernel_rfl)
end
noncomputable section
open Go Go.Proofs
theorem ke3:Kl Tryz.prog GT 4 264 [.agg [.sl 0 0 1 1 false 3,.nils,.sl 1 0 1 1 false 3],.sl 2 0 1 1 false 8] [xe [.str [111],xi 1,.str [109]] 144 true,xe [.str [109],.bool false,xi 3600] 146 true,xe [.str [99,49,46,53],.str [111],xi 100,.str [],.str [65,66,49,50],xi 1,xi 1000,.sl 3 0 1 1 false 2] 290 false,xe [.str [99,49],xi 5] 317 true]
  (.tup [.sl 4 0 1 1 false 5,.nils]) [xe [.str [111],xi 1,.str [109]] 144 true,xe [.str [109],.bool false,xi 3600] 146 true,xe [.str [99,49,46,53],.str [111],xi 100,.str [],.str [65,66,49,50],xi 1,xi 1000,.sl 3 0 1 1 false 2] 290 false,xe [.str [99,49],xi 5] 317 true,xe [.str [99,49,46,53],.str [65,66,49,50],.str [109],xi 1,.sl 5 0 1 1 false 3] 294 false,xe [.str [111],xi 100,.str [99,49,46,53]] 322 true]:=
 Kl.of_run (GlL _ _) 4 100000 [0,1,2,3,298,282] (by kernel_rfl)
end
noncomputable section
open Go Go.Proofs
theorem ke4:Kl Tryz.prog GT 11 199 [.agg [.sl 0 0 1 1 false 3,.nils,.sl 1 0 1 1 false 3,.sl 2 0 1 1 false 6,.nils,.nils,xi 10,xi 0,.sl 3 0 1 1 false 4,xi 60,.nils,.nils,.sl 4 0 1 1 false 1,.nils,.nils,.nils,.nils,.nils,.nils,.nils,.sl 5 0 4 4 false 1,.sl 6 0 4 4 false 1,xi 100,.nils,.str [97]],.sl 7 0 1 1 false 5,.nils,.nils,.sl 8 0 1 1 false 11] [xe [.str [111],xi 1,.str [109]] 144 true,xe [.str [109],.bool false,xi 3600] 146 true,xe [.str [99,49],.str [111],xi 2,xi 1,.nils,.nils] 77 true,xe [xi 0,xi 900000,.nils,.sl 9 0 1 1 false 5] 83 false,xe [xi 1000] 3 true,xe [xi 1,xi 1,xi 1,xi 1] 3 true,xe [xi 0,xi 0,xi 0,xi 0] 3 true,xe [.str [99,49,46,53],.str [65,66,49,50],.str [109],xi 1,.sl 10 0 1 1 false 3] 294 false,xe [.str [99,49],xi 5,xi 100,.str [],.str [65,66,49,50],xi 0,xi 1000,xi 100,.str [111],xi 1,xi 2] 210 true,xe [.str [111],.str [],xi 1,.str [],xi 400] 148 true,xe [.str [111],xi 100,.str [99,49,46,53]] 322 true]
  (.tup [.sl 11 0 1 1 false 7,.nils,xi 0]) [xe [.str [111],xi 1,.str [109]] 144 true,xe [.str [109],.bool false,xi 3600] 146 true,xe [.str [99,49],.str [111],xi 2,xi 1,.nils,.nils] 77 true,xe [xi 0,xi 900000,.nils,.sl 9 0 1 1 false 5] 83 false,xe [xi 1000] 3 true,xe [xi 1,xi 1,xi 1,xi 1] 3 true,xe [xi 0,xi 0,xi 0,xi 0] 3 true,xe [.str [99,49,46,53],.str [65,66,49,50],.str [109],xi 1,.sl 10 0 1 1 false 3] 294 false,xe [.str [99,49],xi 5,xi 100,.str [],.str [65,66,49,50],xi 0,xi 1000,xi 100,.str [111],xi 1,xi 2] 210 true,xe [.str [111],.str [],xi 1,.str [],xi 400] 148 true,xe [.str [111],xi 100,.str [99,49,46,53]] 322 true,xe [.str [116,58,99,49,46,53],.str [65,66,49,50],.str [109],xi 1,xi 100,.sl 12 0 1 1 false 2,xi 400] 261 false,xe [.str [98,97,115,101],xi 400] 328 true]:=
 Kl.of_run (GlL _ _) 11 100000 [0,1,2,3,4,5,6,7,8,9,10,136,134] (by kernel_rfl)
theorem ke5:Kl Tryz.prog GT 9 125 [.agg [.sl 0 0 1 1 false 3,.nils,.sl 1 0 1 1 false 3,.sl 2 0 1 1 false 6,.nils,.nils,xi 10,xi 0,.sl 3 0 1 1 false 4,xi 60,.nils,.nils,.sl 4 0 1 1 false 1,.nils,.nils,.nils,.nils,.nils,.nils,.nils,.sl 5 0 4 4 false 1,.sl 6 0 4 4 false 1,xi 100,.nils,.str [97]],.sl 7 0 1 1 false 11,.nils,.nils] [xe [.str [111],xi 1,.str [109]] 144 true,xe [.str [109],.bool false,xi 3600] 146 true,xe [.str [99,49],.str [111],xi 2,xi 1,.nils,.nils] 77 true,xe [xi 0,xi 900000,.nils,.sl 8 0 1 1 false 5] 83 false,xe [xi 1000] 3 true,xe [xi 1,xi 1,xi 1,xi 1] 3 true,xe [xi 0,xi 0,xi 0,xi 0] 3 true,xe [.str [99,49],xi 5,xi 100,.str [],.str [65,66,49,50],xi 0,xi 1000,xi 100,.str [111],xi 1,xi 2] 210 true,xe [.str [111],.str [],xi 1,.str [],xi 400] 148 true]
  (.tup [.agg [.sl 9 0 1 1 false 8,.nils,.sl 10 0 1 1 false 5,.nils,.sl 11 0 1 1 false 7,.nils],xi 0]) [xe [.str [111],xi 1,.str [109]] 144 true,xe [.str [109],.bool false,xi 3600] 146 true,xe [.str [99,49],.str [111],xi 2,xi 1,.nils,.nils] 77 true,xe [xi 0,xi 900000,.nils,.sl 8 0 1 1 false 5] 83 false,xe [xi 1000] 3 true,xe [xi 1,xi 1,xi 1,xi 1] 3 true,xe [xi 0,xi 0,xi 0,xi 0] 3 true,xe [.str [99,49],xi 5,xi 100,.str [],.str [65,66,49,50],xi 0,xi 1000,xi 100,.str [111],xi 1,xi 2] 210 true,xe [.str [111],.str [],xi 1,.str [],xi 400] 148 true,xe [.str [99,49,46,53],.str [111],xi 100,.str [],.str [65,66,49,50],xi 1,xi 1000,.sl 12 0 1 1 false 2] 290 false,xe [.str [99,49,46,53],.str [65,66,49,50],.str [109],xi 1,.sl 13 0 1 1 false 3] 294 false,xe [.str [116,58,99,49,46,53],.str [65,66,49,50],.str [109],xi 1,xi 100,.sl 14 0 1 1 false 2,xi 400] 261 false,xe [.str [99,49],xi 5] 317 true,xe [.str [111],xi 100,.str [99,49,46,53]] 322 true,xe [.str [98,97,115,101],xi 400] 328 true]:=
 Kl.of_run (tab [⟨260,12,[0,1,2,3,4,5,6,7,8],9,_,_,_,_,ke2⟩,⟨264,23,[0,1,21,22],4,_,_,_,_,ke3⟩,⟨199,34,[0,1,2,3,4,5,6,27,7,8,28],11,_,_,_,_,ke4⟩]) 9 100000 [0,1,2,3,4,5,6,7,8,21,27,45,22,28,46] (by kernel_rfl)
end
set_option maxRecDepth 100000
noncomputable section
open Go Go.Proofs
abbrev poA:List UInt8:=[99,97,115,101,58,65,66,49,50]
abbrev poB:List UInt8:=[114,101,118,101,110,117,101,58,109]
abbrev poK:List UInt8:=[116,58,99,49,46,53,35,48]
def poE (p:List UInt8×Int):AV×AV:=(.str p.1,xi p.2)
abbrev poP:Hb:=xe [.str poA,xi 400,.str poB,xi (-400)] 256 true
abbrev Ggb:List Hb:=[xb [.nils] 61 true,xb [.str poK,xi 100,.sl 3 0 2 2 false 2] 253 false,xb [.nils] 61 true,poP]
abbrev poT:List (Nat×AV):=[(2,.ptr 0 0),(3,.ptr 1 0),(4,.ptr 2 0),(5,xi 0)]
abbrev GAo:List (Nat×AV):=[(2,.ptr 0 0),(3,.ptr 1 0),(4,.ptr 2 0),(5,xi 0),(9,.mapr 4)]
abbrev Gte:List (Nat×AV):=[(2,.ptr 0 0),(3,.ptr 1 0),(4,.ptr 2 0),(5,xi 0),(9,.mapr 4),(35,.mapr 5)]
abbrev Gye:List (Nat×AV):=[(2,.ptr 0 0),(3,.ptr 1 0),(4,.ptr 2 0),(5,xi 0),(9,.mapr 4),(36,.ptr 6 0)]
abbrev poL:List (List UInt8×Int):=[(poA,400),(poB, -400)]
abbrev poN:Code:=GK Tryz.prog 242 [1,1,1,1,0]
theorem GAp:Gce Tryz.prog GT 4 (Gyd (GK Tryz.prog 242 [1,1,1,1,0,0])) [0,1,2] (S 73 GAo (Ggb++[bM .s []])) .normal (S 73 Gte (Ggb++[bM .s [],bM .s (poL.map poE)])):=
 Gce.of_viewM 4 4000 [] [0,1,2,3,4,6] (ps:=[]) (by kernel_rfl) (by kernel_rfl) trivial
theorem GAq (l:List (List UInt8×Int)) (m:Nat) (ms:List MapEntry) (cl:Nat):Gce Tryz.prog GT 4 (Gyd (GK Tryz.prog 242 [1,1,1,1,0,0])) [3] (S 73 Gte (Ggb++[bM .s [],bR m .s (l.map poE) ms cl])) .normal (S 73 Gye (Ggb++[bM .s [],bR m .s (l.map poE) ms cl,bI m cl [] cl])):=
 Gce.of_viewM 4 400 [] [0,1,2,3,4,5,6] (ps:=[]) (by kernel_rfl) (by kernel_rfl) trivial
abbrev poH (l:List (List UInt8×Int)) (m:Nat) (ms:List MapEntry) (cl:Nat) (s:Unit) (seen:List Nat):St:=S 73 Gye (Ggb++[bM .s [],bR m .s (l.map poE) ms cl,bI m cl seen cl])
theorem GAB (l:List (List UInt8×Int)) (m:Nat) (ms:List MapEntry) (cl:Nat) (seen:List Nat) (k:List UInt8) (b:Nat) (he:GpZ (l.map poE) ms (seen++[b]) (.str k) (xi 400)):
  GN Tryz.prog GT 4 (GK Tryz.prog 242 [1,1,1,1,0,1,0,0,1]) (GlK (poH l m ms cl () seen) 6 37 38 (.tup [.bool true,.str k,xi 400]) true (.mit m cl (seen++[b]) cl)) .normal (poH l m ms cl () (seen++[b])):=
 GN.of_viewM 4 4000 [.op none (.v [.mapr 5,.str k,xi 400])] [0,1,2,3,4,5,6] (ps:=[m=m∧cl=cl∧GpZ (l.map poE) ms (seen++[b]) (.str k) (xi 400)]) (by kernel_rfl) (by kernel_rfl) ⟨rfl,rfl,he⟩
theorem GAC (l:List (List UInt8×Int)) (m:Nat) (ms:List MapEntry) (cl:Nat) (seen:List Nat) (k:List UInt8) (b:Nat) (he:GpZ (l.map poE) ms (seen++[b]) (.str k) (xi (-400))):
  GN Tryz.prog GT 4 (GK Tryz.prog 242 [1,1,1,1,0,1,0,0,1]) (GlK (poH l m ms cl () seen) 6 37 38 (.tup [.bool true,.str k,xi (-400)]) true (.mit m cl (seen++[b]) cl)) .normal (poH l m ms cl () (seen++[b])):=
 GN.of_viewM 4 4000 [.op none (.v [.mapr 5,.str k,xi (-400)])] [0,1,2,3,4,5,6] (ps:=[m=m∧cl=cl∧GpZ (l.map poE) ms (seen++[b]) (.str k) (xi (-400))]) (by kernel_rfl) (by kernel_rfl) ⟨rfl,rfl,he⟩
theorem Gzj (l:List (List UInt8×Int)) (m:Nat) (ms:List MapEntry) (cl:Nat) (seen:List Nat):
  GN Tryz.prog GT 4 (GK Tryz.prog 242 [1,1,1,1,0,1,0,0,1]) (GlK (poH l m ms cl () seen) 6 37 38 (.tup [.bool false]) false (.mit m cl seen cl)) (.exit 0) (S 73 poT Ggb):=
 GN.of_viewM 4 400 [] [0,1,2,3] (ps:=[]) (by kernel_rfl) (by kernel_rfl) trivial
def poF (_:Unit) (y:List UInt8×Int):Option Unit:=if y.2=400∨y.2 = -400 then some () else none
theorem GvQ:∀ l:List (List UInt8×Int),(∀ y ∈ l,y.2=400∨y.2 = -400)→l.foldlM poF ()=some ()
 | [],_=>rfl
 | y::l,h=>by
  rw [List.foldlM_cons]
  have h1:poF () y=some ():=if_pos (h y List.mem_cons_self)
  rw [h1]
  exact GvQ l fun z hz=>h z (List.mem_cons_of_mem _ hz)
theorem Gzk (l:List (List UInt8×Int)) (m:Nat) (ms:List MapEntry) (cl:Nat) (hl:l.length=ms.length) (hn:(ms.map (·.born)).Nodup) (hp:l.Perm poL):
  GN Tryz.prog GT 4 (GK Tryz.prog 242 [1,1,1,1,0,1,0]) (poH l m ms cl () []) (.exit 0) (S 73 poT Ggb):=by
 obtain ⟨id,ops,hc,hops⟩:=Gww (c:=GK Tryz.prog 242 [1,1,1,1,0,1,0]) (ti:=36) (td:=37) (te:=38) (nt:=73) (by kernel_rfl)
 have hrest:Gyn (GK Tryz.prog 242 [1,1,1,1,0,1,0])=GK Tryz.prog 242 [1,1,1,1,0,1,0,0,1]:=by kernel_rfl
 rw [hrest] at hc
 rw [hc]
 have H:=Gwx (P:=Tryz.prog) (G:=GT) (n:=4) (id:=id) (i:=6) (j:=5) (m:=m) (cl:=cl) (kd:=.s) (ent:=poE) (l:=l) (ms:=ms) (σ:=Unit) (rest:=GK Tryz.prog 242 [1,1,1,1,0,1,0,0,1])
  poF (poH l m ms cl) (fun _=>S 73 poT Ggb) (.exit 0) hl hn hops
  (fun s seen=>⟨rfl,(show 4≤7 by decide),by kernel_rfl,by kernel_rfl,by kernel_rfl⟩) (by simp)
  (fun s s' seen x e y h1 h2 h3=>by
   obtain ⟨k,v⟩:=y
   have he:GpZ (l.map poE) ms (seen++[e.born]) (.str k) (xi v):=⟨x,e,h1,by rw [List.getElem?_map,h2]; rfl,by simp⟩
   unfold poF at h3
   split at h3
   ·rename_i hv
    rcases hv with hv | hv
    ·obtain rfl:v=400:=hv
     exact GAB l m ms cl seen k e.born he
    ·obtain rfl:v = -400:=hv
     exact GAC l m ms cl seen k e.born he
   ·cases h3)
  (fun s seen=>Gzj l m ms cl seen) (s0:=()) (fun l' hp'=>by
   rw [GvQ l' fun y hy=>by
    have:=(hp'.trans hp).mem_iff.1 hy
    simp only [List.mem_cons,List.not_mem_nil,or_false] at this
    rcases this with rfl | rfl
    ·exact .inl rfl
    ·exact .inr rfl]
   simp)
 refine H.one (by simp) fun e1 s1 ⟨he,l',t,hp',hf,hs⟩=>⟨he,?_⟩
 subst hs
 exact Uc.refl
theorem Gzl:GN Tryz.prog GT 4 poN (S 73 GAo (Ggb++[bM .s []])) .normal (S 73 poT Ggb):=by
 have hR:∃ id,poN=.seq (.region id (Gyd (GK Tryz.prog 242 [1,1,1,1,0,0])) false) (.block 0 (GK Tryz.prog 242 [1,1,1,1,0,1,0])):=⟨8,by kernel_rfl⟩
 obtain ⟨id,hR⟩:=hR
 rw [hR]
 refine M1.one (R:=fun e s'=>e=.normal∧s'=S 73 poT Ggb) ?_ (by simp) fun e s' ⟨h1,h2⟩=>⟨h1,by rw [h2]; exact Uc.refl⟩
 refine M1.seq (M1.region_show (j:=5) (kd:=.s) (es:=poL.map poE) (l1:=[0,1,2]) (l2:=[3]) (s2:=fun m es' ms cl=>S 73 Gye (Ggb++[bM .s [],bR m .s es' ms cl,bI m cl [] cl])) (by kernel_rfl) GAp (by kernel_rfl) ?_) (fun s1 hh=>?_) (fun e s1 hne h1=>absurd h1.1 hne)
 ·intro m es' ms cl hp _ _
  obtain ⟨l',_,rfl⟩:=Gtc hp.symm
  have hh:=GAq l' m ms cl
  have he:S 73 Gte (Ggb++[bM .s [],bR m .s (l'.map poE) ms cl])={ S 73 Gte (Ggb++[bM .s [],bM .s (poL.map poE)]) with hp:=(S 73 Gte (Ggb++[bM .s [],bM .s (poL.map poE)])).hp.set 5 (.rm m .s (l'.map poE) ms cl) }:=by kernel_rfl
  rw [he] at hh
  exact hh
 ·obtain ⟨_,m,es',ms,cl,hp,hlen,hnd,hs⟩:=hh
  subst hs
  obtain ⟨l',hl',rfl⟩:=Gtc hp.symm
  exact (GN.block (Gzk l' m ms cl (by simpa using hlen) hnd hl')).toE.mono fun e s' ⟨h1,h2⟩=>⟨by rw [h1]; rfl,h2⟩
theorem Gu2:Kl Tryz.prog GT 1 242 [.agg [.nils],.agg [.str [116,58,99,49,46,53,35,48],xi 100,.sl 0 0 2 2 false 2]] [xe [.str [99,97,115,101,58,65,66,49,50],xi 400,.str [114,101,118,101,110,117,101,58,109],xi (-400)] 256 true]
  (.tup [.agg [.sl 1 0 1 1 false 3],xi 0]) [xe [.str [99,97,115,101,58,65,66,49,50],xi 400,.str [114,101,118,101,110,117,101,58,109],xi (-400)] 256 true,xe [.str [116,58,99,49,46,53,35,48],xi 100,.sl 2 0 2 2 false 2] 253 false,xe [.str [99,97,115,101,58,65,66,49,50],xi 400,.str [114,101,118,101,110,117,101,58,109],xi (-400)] 256 true]:=
 Kl.of_view 1 4000 (cs 561 [.fcuta 1 4 .normal poT Ggb [1,2,3,0,10] [(2,.any),(3,.any),(4,.any),(5,.any),(9,.any)] [bS,bS,bS,bS,bS]]) [0,21,19]
  (ps:=[GN Tryz.prog GT 4 poN (S 73 GAo (Ggb++[bM .s []])) .normal (S 73 poT Ggb)]) (by kernel_rfl) (by kernel_rfl) (Gb Gzl)
end
noncomputable section
open Go Go.Proofs
theorem Gx5:HA Tryz.prog GT 5 [] (.bool true) []:=
 HA.of_true (tab [⟨17,11,[1,2,3,5,6,7,8,4],8,_,_,_,_,ke0⟩,⟨17,46,[],0,_,_,_,_,ke1⟩,⟨125,170,[111,113,118,125,127,129,131,169,123],9,_,_,_,_,ke5⟩,⟨242,304,[298],1,_,_,_,_,Gu2⟩,⟨125,697,[593,595,600,607,609,611,613,696,605],9,_,_,_,_,ke5⟩]) 100000 (by kernel_rfl)
end
noncomputable section
open Go Go.Proofs
def Gq8:Option Bool:=some true
theorem Gm7 (r:Bool) (h:Gq8=some r):HA Tryz.prog GT 5 [] (.bool r) []:=by
 obtain rfl:=Option.some.inj h
 exact Gx5
end
end Go.Proofs.YtdifanfcaemokaaGreatDoor.Av
