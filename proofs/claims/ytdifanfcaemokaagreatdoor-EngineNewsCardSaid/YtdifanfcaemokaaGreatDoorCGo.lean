import Derived.Test.YtdifanfcaemokaaGreatDoorCLa
import GoSem.ClaimGoes
open Prod (fst)
open Int (tdiv tmod)
set_option maxHeartbeats 4000000
set_option maxRecDepth 100000
namespace Go.Proofs.YtdifanfcaemokaaGreatDoor.Av
open Go Go.Proofs Go.ChangeShapes Go.WideShapes Go.RowKit
def quiet (P:Program) (i:Nat):Bool:=!(P.funcs[i]?).any Func.goes
theorem GwG:Hv (quiet Tryz.prog) 0 81=true:=by kernel_rfl
theorem GwH:Hv (quiet Tryz.prog) 81 81=true:=by kernel_rfl
theorem GwI:Hv (quiet Tryz.prog) 162 81=true:=by kernel_rfl
theorem GwJ:Hv (quiet Tryz.prog) 243 81=true:=by kernel_rfl
theorem GwK:Hv (quiet Tryz.prog) 324 81=true:=by kernel_rfl
theorem GwL:Hv (quiet Tryz.prog) 405 81=true:=by kernel_rfl
theorem GwM:Hv (quiet Tryz.prog) 486 81=true:=by kernel_rfl
theorem GwN:Hv (quiet Tryz.prog) 567 81=true:=by kernel_rfl
theorem GwO:Hv (quiet Tryz.prog) 648 81=true:=by kernel_rfl
theorem GwP:Hv (quiet Tryz.prog) 729 32=true:=by kernel_rfl
theorem Guw:Tryz.prog.funcs.size=761:=by kernel_rfl
theorem GqA (g:Nat):(Tryz.prog.funcs[g]?).any Func.goes=false:=by
 have h:quiet Tryz.prog g=true→(Tryz.prog.funcs[g]?).any Func.goes=false:=fun h=>by
  unfold quiet at h
  cases e:(Tryz.prog.funcs[g]?).any Func.goes with
  | false=>rfl
  | true=>rw [e] at h; cases h
 by_cases h0:g<81
 ·exact h (GY GwG g (by omega) (by omega))
 by_cases h1:g<162
 ·exact h (GY GwH g (by omega) (by omega))
 by_cases h2:g<243
 ·exact h (GY GwI g (by omega) (by omega))
 by_cases h3:g<324
 ·exact h (GY GwJ g (by omega) (by omega))
 by_cases h4:g<405
 ·exact h (GY GwK g (by omega) (by omega))
 by_cases h5:g<486
 ·exact h (GY GwL g (by omega) (by omega))
 by_cases h6:g<567
 ·exact h (GY GwM g (by omega) (by omega))
 by_cases h7:g<648
 ·exact h (GY GwN g (by omega) (by omega))
 by_cases h8:g<729
 ·exact h (GY GwO g (by omega) (by omega))
 by_cases h9:g<761
 ·exact h (GY GwP g (by omega) (by omega))
 have e:Tryz.prog.funcs[g]?=none:=Array.getElem?_eq_none (by rw [Guw]; omega)
 rw [e]; rfl
theorem Gtg:Tryz.prog.funcs.any Func.goes=false:=by
 rw [← Bool.not_eq_true,Array.any_eq_true]
 rintro ⟨i,hi,h⟩
 have:=GqA i
 rw [Array.getElem?_eq_getElem hi] at this
 simp only [Option.any_some] at this
 rw [this] at h; cases h
theorem Gwq (n:String):Tryz.prog.goesFrom n=false:=by
 unfold Program.goesFrom
 cases Tryz.prog.funcNamed n with
 | none=>rfl
 | some f=>
  simp only [Option.any_some]
  unfold Program.goes
  rw [Gtg,Bool.and_false,Bool.or_false,← Bool.not_eq_true,List.any_eq_true]
  rintro ⟨i,hi,h⟩
  rw [GqA] at h; cases h
theorem GrN {c:OpenClaim} (hs:c.start=.entering):false=c.goesBy Tryz.prog:=by
 unfold OpenClaim.goesBy Program.goesAt
 rw [Gwq,hs]; rfl
end Go.Proofs.YtdifanfcaemokaaGreatDoor.Av
