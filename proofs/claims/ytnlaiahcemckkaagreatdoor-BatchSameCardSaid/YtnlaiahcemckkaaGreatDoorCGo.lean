/- No function of the program starts a goroutine: checked in parts. -/
import Derived.Test.YtnlaiahcemckkaaGreatDoorCLa
import GoSem.ClaimGoes
set_option maxHeartbeats 4000000
set_option maxRecDepth 100000
namespace Go.Proofs.YtnlaiahcemckkaaGreatDoor.Av
open Go Go.Proofs Go.ChangeShapes Go.WideShapes Go.RowKit
def quiet (P : Program) (i : Nat) : Bool := !(P.funcs[i]?).any Func.goes
theorem quiet_at0 : allFrom (quiet Tryz.prog) 0 81 = true := by kernel_rfl
theorem quiet_at1 : allFrom (quiet Tryz.prog) 81 81 = true := by kernel_rfl
theorem quiet_at2 : allFrom (quiet Tryz.prog) 162 81 = true := by kernel_rfl
theorem quiet_at3 : allFrom (quiet Tryz.prog) 243 81 = true := by kernel_rfl
theorem quiet_at4 : allFrom (quiet Tryz.prog) 324 81 = true := by kernel_rfl
theorem quiet_at5 : allFrom (quiet Tryz.prog) 405 81 = true := by kernel_rfl
theorem quiet_at6 : allFrom (quiet Tryz.prog) 486 81 = true := by kernel_rfl
theorem quiet_at7 : allFrom (quiet Tryz.prog) 567 81 = true := by kernel_rfl
theorem quiet_at8 : allFrom (quiet Tryz.prog) 648 12 = true := by kernel_rfl
theorem funcs_size : Tryz.prog.funcs.size = 660 := by kernel_rfl
theorem quiet_all (g : Nat) : (Tryz.prog.funcs[g]?).any Func.goes = false := by
  have h : quiet Tryz.prog g = true → (Tryz.prog.funcs[g]?).any Func.goes = false := fun h => by
    unfold quiet at h
    cases e : (Tryz.prog.funcs[g]?).any Func.goes with
    | false => rfl
    | true => rw [e] at h; cases h
  by_cases h0 : g < 81
  · exact h (allFrom_spec quiet_at0 g (by omega) (by omega))
  by_cases h1 : g < 162
  · exact h (allFrom_spec quiet_at1 g (by omega) (by omega))
  by_cases h2 : g < 243
  · exact h (allFrom_spec quiet_at2 g (by omega) (by omega))
  by_cases h3 : g < 324
  · exact h (allFrom_spec quiet_at3 g (by omega) (by omega))
  by_cases h4 : g < 405
  · exact h (allFrom_spec quiet_at4 g (by omega) (by omega))
  by_cases h5 : g < 486
  · exact h (allFrom_spec quiet_at5 g (by omega) (by omega))
  by_cases h6 : g < 567
  · exact h (allFrom_spec quiet_at6 g (by omega) (by omega))
  by_cases h7 : g < 648
  · exact h (allFrom_spec quiet_at7 g (by omega) (by omega))
  by_cases h8 : g < 660
  · exact h (allFrom_spec quiet_at8 g (by omega) (by omega))
  have e : Tryz.prog.funcs[g]? = none := Array.getElem?_eq_none (by rw [funcs_size]; omega)
  rw [e]; rfl
theorem quiet_funcs : Tryz.prog.funcs.any Func.goes = false := by
  rw [← Bool.not_eq_true, Array.any_eq_true]
  rintro ⟨i, hi, h⟩
  have := quiet_all i
  rw [Array.getElem?_eq_getElem hi] at this
  simp only [Option.any_some] at this
  rw [this] at h; cases h
theorem goes_none (n : String) : Tryz.prog.goesFrom n = false := by
  unfold Program.goesFrom
  cases Tryz.prog.funcNamed n with
  | none => rfl
  | some f =>
    simp only [Option.any_some]
    unfold Program.goes
    rw [quiet_funcs, Bool.and_false, Bool.or_false, ← Bool.not_eq_true, List.any_eq_true]
    rintro ⟨i, hi, h⟩
    rw [quiet_all] at h; cases h
theorem goesBy_false {c : OpenClaim} (hs : c.start = .entering) : false = c.goesBy Tryz.prog := by
  unfold OpenClaim.goesBy Program.goesAt
  rw [goes_none, hs]; rfl
end Go.Proofs.YtnlaiahcemckkaaGreatDoor.Av
