import Derived.Test.YtdifanfcaemokaaGreatDoorCLa
import Derived.Test.YtdifanfcaemokaaGreatDoorProg
import GoSem.ClaimSeven
open Prod (fst)
open Int (tdiv tmod)
set_option maxHeartbeats 4000000
set_option maxRecDepth 100000
namespace Go.Proofs.YtdifanfcaemokaaGreatDoor.Av
open Go Go.Proofs
def KM (p:Nat→Bool) (a:Nat):Nat→Bool
 | 0=>true
 | k+1=>p a&&KM p (a+1) k
theorem HD {p:Nat→Bool}:∀ {k a:Nat},KM p a k=true→∀ t,a≤t→t<a+k→p t=true
 | 0,a,_,t,h1,h2=>by omega
 | k+1,a,h,t,h1,h2=>by
  simp only [KM,Bool.and_eq_true] at h
  by_cases e:t=a
  ·subst e; exact h.1
  ·exact HD h.2 t (by omega) (by omega)
def looksAt (P:Program) (g:Nat):Bool:=(P.funcs[g]?).any fun fn=>match fn.body with | some c=>c.looks P | none=>false
def Xu (P:Program) (g:Nat):Bool:=!looksAt P g
theorem Gvf:KM (Xu Tryz.prog) 0 66=true:=by kernel_rfl
theorem Gvg:KM (Xu Tryz.prog) 66 66=true:=by kernel_rfl
theorem Gvh:KM (Xu Tryz.prog) 132 66=true:=by kernel_rfl
theorem Gvi:KM (Xu Tryz.prog) 198 66=true:=by kernel_rfl
theorem Gvj:KM (Xu Tryz.prog) 264 66=true:=by kernel_rfl
theorem Gvk:KM (Xu Tryz.prog) 330 66=true:=by kernel_rfl
theorem Gvl:KM (Xu Tryz.prog) 396 66=true:=by kernel_rfl
theorem Gvm:KM (Xu Tryz.prog) 462 66=true:=by kernel_rfl
theorem Gvn:KM (Xu Tryz.prog) 528 66=true:=by kernel_rfl
theorem Gvo:KM (Xu Tryz.prog) 594 66=true:=by kernel_rfl
theorem Gtu:KM (Xu Tryz.prog) 660 66=true:=by kernel_rfl
theorem Gtv:KM (Xu Tryz.prog) 726 35=true:=by kernel_rfl
theorem GsU:Tryz.prog.funcs.size=761:=by kernel_rfl
theorem Gve (g:Nat):looksAt Tryz.prog g=false:=by
 have h:Xu Tryz.prog g=true→looksAt Tryz.prog g=false:=fun h=>by
  unfold Xu at h
  cases e:looksAt Tryz.prog g with
  | false=>rfl
  | true=>rw [e] at h; cases h
 by_cases h0:g<66
 ·exact h (HD Gvf g (by omega) (by omega))
 by_cases h1:g<132
 ·exact h (HD Gvg g (by omega) (by omega))
 by_cases h2:g<198
 ·exact h (HD Gvh g (by omega) (by omega))
 by_cases h3:g<264
 ·exact h (HD Gvi g (by omega) (by omega))
 by_cases h4:g<330
 ·exact h (HD Gvj g (by omega) (by omega))
 by_cases h5:g<396
 ·exact h (HD Gvk g (by omega) (by omega))
 by_cases h6:g<462
 ·exact h (HD Gvl g (by omega) (by omega))
 by_cases h7:g<528
 ·exact h (HD Gvm g (by omega) (by omega))
 by_cases h8:g<594
 ·exact h (HD Gvn g (by omega) (by omega))
 by_cases h9:g<660
 ·exact h (HD Gvo g (by omega) (by omega))
 by_cases h10:g<726
 ·exact h (HD Gtu g (by omega) (by omega))
 by_cases h11:g<761
 ·exact h (HD Gtv g (by omega) (by omega))
 have e:Tryz.prog.funcs[g]?=none:=Array.getElem?_eq_none (by rw [GsU]; omega)
 unfold looksAt; rw [e]; rfl
theorem GuU:Tryz.prog.looks []=false:=by
 unfold Program.looks
 rw [← Bool.not_eq_true,List.any_eq_true]
 rintro ⟨g,_,h⟩
 rw [Bool.and_eq_true] at h
 have h2:=Gve g
 unfold looksAt at h2
 exact Bool.noConfusion (h2.symm.trans h.2)
end Go.Proofs.YtdifanfcaemokaaGreatDoor.Av
