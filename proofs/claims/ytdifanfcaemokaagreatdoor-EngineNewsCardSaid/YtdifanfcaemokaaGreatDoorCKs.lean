import Derived.Test.YtdifanfcaemokaaGreatDoorCKl0
import Derived.Test.YtdifanfcaemokaaGreatDoorCKl1
import Derived.Test.YtdifanfcaemokaaGreatDoorCKl2
open Prod (fst)
open Int (tdiv tmod)
set_option maxRecDepth 1000000
set_option linter.unusedVariables false
namespace Go.Proofs.YtdifanfcaemokaaGreatDoor.Av
open Go Go.Proofs
theorem Gqq:Tryz.prog.funcs.size=761:=by kernel_rfl
theorem Gpv:∀ {T:List (List Nat)} {g:Nat},T.length≤g→Gfv T g=[]
 | [],g,_=>by cases g <;> rfl
 | x::l,0,h=>by simp at h
 | x::l,g+1,h=>by simp only [List.length_cons] at h; exact Gpv (T:=l) (by omega)
theorem Gyz (g:Nat) (h:761≤g):Gfv Qc g=[]:=Gpv (Nat.le_trans (nB (by kernel_rfl:Nat.ble Qc.length 761=true)) h)
theorem Gqr (g:Nat):(Tryz.prog.funcs[g]?).elim [] Tryz.prog.leadsTo=Gfv Qc g:=by
 by_cases h0:g<80
 ·exact VS (GY Gz8 g (by omega) (by omega))
 by_cases h1:g<160
 ·exact VS (GY Gz9 g (by omega) (by omega))
 by_cases h2:g<240
 ·exact VS (GY GAa g (by omega) (by omega))
 by_cases h3:g<320
 ·exact VS (GY GAb g (by omega) (by omega))
 by_cases h4:g<400
 ·exact VS (GY GAc g (by omega) (by omega))
 by_cases h5:g<480
 ·exact VS (GY GAd g (by omega) (by omega))
 by_cases h6:g<560
 ·exact VS (GY GAe g (by omega) (by omega))
 by_cases h7:g<640
 ·exact VS (GY GAf g (by omega) (by omega))
 by_cases h8:g<720
 ·exact VS (GY GAg g (by omega) (by omega))
 by_cases h9:g<761
 ·exact VS (GY GAh g (by omega) (by omega))
 rw [Array.getElem?_eq_none (by rw [Gqq]; omega)]
 rw [Gyz g (by omega)]; rfl
theorem GsA (f:Nat):Tryz.prog.closure f=cvT Qc 2079 [f] [] 0:=by
 rw [GzU,Guf Gqr,Gzt Gqr,Gqq]
 rw [show 1+Gyw Qc 761=2079 by kernel_rfl]
end Go.Proofs.YtdifanfcaemokaaGreatDoor.Av
