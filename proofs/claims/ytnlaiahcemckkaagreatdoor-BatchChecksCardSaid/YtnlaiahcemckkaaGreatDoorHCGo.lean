import Derived.Test.YtnlaiahcemckkaaGreatDoorHCLa
import GoSem.ClaimGoes
open Prod (fst)
open Int (tdiv tmod)
set_option maxHeartbeats 4000000
set_option maxRecDepth 100000
namespace Go.Proofs.YtnlaiahcemckkaaGreatDoor.Av
open Go Go.Proofs Go.ChangeShapes Go.WideShapes Go.RowKit
def quiet (P:Program) (i:Nat):Bool:=!(P.funcs[i]?).any Func.goes
theorem GtG:Hz (quiet Tryz.prog) 0 81=true:=by kernel_rfl
theorem GtL:Hz (quiet Tryz.prog) 81 81=true:=by kernel_rfl
theorem Gug:Hz (quiet Tryz.prog) 162 81=true:=by kernel_rfl
theorem GtQ:Hz (quiet Tryz.prog) 243 81=true:=by kernel_rfl
theorem GtW:Hz (quiet Tryz.prog) 324 81=true:=by kernel_rfl
theorem GtJ:Hz (quiet Tryz.prog) 405 81=true:=by kernel_rfl
theorem GtH:Hz (quiet Tryz.prog) 486 81=true:=by kernel_rfl
theorem GtT:Hz (quiet Tryz.prog) 567 81=true:=by kernel_rfl
theorem Gtu:Hz (quiet Tryz.prog) 648 12=true:=by kernel_rfl
theorem GsK:Tryz.prog.funcs.size=660:=by kernel_rfl
theorem Gok (g:Nat):(Tryz.prog.funcs[g]?).any Func.goes=false:=by
 have h:quiet Tryz.prog g=true→(Tryz.prog.funcs[g]?).any Func.goes=false:=fun h=>by
  unfold quiet at h
  cases e:(Tryz.prog.funcs[g]?).any Func.goes with
  | false=>rfl
  | true=>rw [e] at h; cases h
 by_cases h0:g<81
 ·exact h (GY GtG g (by omega) (by omega))
 by_cases h1:g<162
 ·exact h (GY GtL g (by omega) (by omega))
 by_cases h2:g<243
 ·exact h (GY Gug g (by omega) (by omega))
 by_cases h3:g<324
 ·exact h (GY GtQ g (by omega) (by omega))
 by_cases h4:g<405
 ·exact h (GY GtW g (by omega) (by omega))
 by_cases h5:g<486
 ·exact h (GY GtJ g (by omega) (by omega))
 by_cases h6:g<567
 ·exact h (GY GtH g (by omega) (by omega))
 by_cases h7:g<648
 ·exact h (GY GtT g (by omega) (by omega))
 by_cases h8:g<660
 ·exact h (GY Gtu g (by omega) (by omega))
 have e:Tryz.prog.funcs[g]?=none:=Array.getElem?_eq_none (by rw [GsK]; omega)
 rw [e]; rfl
theorem GqS:Tryz.prog.funcs.any Func.goes=false:=by
 rw [← Bool.not_eq_true,Array.any_eq_true]
 rintro ⟨i,hi,h⟩
 have:=Gok i
 rw [Array.getElem?_eq_getElem hi] at this
 simp only [Option.any_some] at this
 rw [this] at h; cases h
theorem Gtx (n:String):Tryz.prog.goesFrom n=false:=by
 unfold Program.goesFrom
 cases Tryz.prog.funcNamed n with
 | none=>rfl
 | some f=>
  simp only [Option.any_some]
  unfold Program.goes
  rw [GqS,Bool.and_false,Bool.or_false,← Bool.not_eq_true,List.any_eq_true]
  rintro ⟨i,hi,h⟩
  rw [Gok] at h; cases h
theorem GpE {c:OpenClaim} (hs:c.start=.entering):false=c.goesBy Tryz.prog:=by
 unfold OpenClaim.goesBy Program.goesAt
 rw [Gtx,hs]; rfl
end Go.Proofs.YtnlaiahcemckkaaGreatDoor.Av
