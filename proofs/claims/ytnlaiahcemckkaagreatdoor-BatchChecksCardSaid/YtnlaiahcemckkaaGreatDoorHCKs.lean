import Derived.Test.YtnlaiahcemckkaaGreatDoorHCKl0
import Derived.Test.YtnlaiahcemckkaaGreatDoorHCKl1
import Derived.Test.YtnlaiahcemckkaaGreatDoorHCKl2
open Prod (fst)
open Int (tdiv tmod)
set_option maxRecDepth 1000000
set_option linter.unusedVariables false
namespace Go.Proofs.YtnlaiahcemckkaaGreatDoor.Av
open Go Go.Proofs
theorem GoD:Tryz.prog.funcs.size=660:=by kernel_rfl
def Grk {α:Type}:Tr α→Nat
 | .e=>0
 | .n l _ r=>max 1 (max (2*Grk l) (2*Grk r+1))
theorem Gi2 {α:Type}:∀ {t:Tr α} {k:Nat},Grk t≤k→t.get k=none
 | .e,k,_=>rfl
 | .n l v r,k,h=>by
  simp only [Grk] at h
  have hk:k≠0:=by omega
  simp only [Tr.get]
  have hb:Nat.beq k 0=false:=by
   cases hh:Nat.beq k 0
   ·rfl
   ·exact absurd (Nat.eq_of_beq_eq_true hh) hk
  rw [hb]
  simp only [cond_false]
  cases hh:Nat.beq (k % 2) 1 with
  | true=>have:=Nat.eq_of_beq_eq_true hh; exact Gi2 (by omega)
  | false=>have:=Nat.ne_of_beq_eq_false hh; exact Gi2 (by omega)
theorem Gvq (g:Nat) (h:660≤g):MJ.get g=none:=Gi2 (Nat.le_trans (nB (by kernel_rfl:Nat.ble (Grk MJ) 660=true)) h)
theorem GoG (g:Nat):(Tryz.prog.funcs[g]?).elim [] Tryz.prog.leadsTo=Gi0 MJ g:=by
 by_cases h0:g<80
 ·exact Xt (GY Gw9 g (by omega) (by omega))
 by_cases h1:g<160
 ·exact Xt (GY GwK g (by omega) (by omega))
 by_cases h2:g<240
 ·exact Xt (GY Gw3 g (by omega) (by omega))
 by_cases h3:g<320
 ·exact Xt (GY GwE g (by omega) (by omega))
 by_cases h4:g<400
 ·exact Xt (GY GwP g (by omega) (by omega))
 by_cases h5:g<480
 ·exact Xt (GY GwO g (by omega) (by omega))
 by_cases h6:g<560
 ·exact Xt (GY GwJ g (by omega) (by omega))
 by_cases h7:g<640
 ·exact Xt (GY GwH g (by omega) (by omega))
 by_cases h8:g<660
 ·exact Xt (GY GwF g (by omega) (by omega))
 rw [Array.getElem?_eq_none (by rw [GoD]; omega)]
 have:MJ.get g=none:=Gvq g (by omega)
 unfold Gi0; rw [this]; rfl
theorem GqW (f:Nat):Tryz.prog.closure f=cvT MJ 1791 [f] [] 0:=by
 rw [GwL,Gsw GoG,Gv3 GoG,GoD]
 rw [show 1+Gus MJ 660=1791 by kernel_rfl]
end Go.Proofs.YtnlaiahcemckkaaGreatDoor.Av
