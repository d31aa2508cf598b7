/- No function of the program looks at a type: checked in parts. -/
import Derived.Test.YtnlaiahcemckkaaGreatDoorProg
import Derived.KernelRfl
import GoSem.ClaimSeven
set_option maxHeartbeats 4000000
set_option maxRecDepth 100000
namespace Go.Proofs.YtnlaiahcemckkaaGreatDoor.Av
open Go Go.Proofs
def allFromK (p : Nat → Bool) (a : Nat) : Nat → Bool
  | 0 => true
  | k + 1 => p a && allFromK p (a + 1) k
theorem allFromK_spec {p : Nat → Bool} : ∀ {k a : Nat}, allFromK p a k = true → ∀ t, a ≤ t → t < a + k → p t = true
  | 0, a, _, t, h1, h2 => by omega
  | k + 1, a, h, t, h1, h2 => by
    simp only [allFromK, Bool.and_eq_true] at h
    by_cases e : t = a
    · subst e; exact h.1
    · exact allFromK_spec h.2 t (by omega) (by omega)
def looksAt (P : Program) (g : Nat) : Bool := (P.funcs[g]?).any fun fn => match fn.body with | some c => c.looks P | none => false
def unlook (P : Program) (g : Nat) : Bool := !looksAt P g
theorem unlook_at0 : allFromK (unlook Tryz.prog) 0 66 = true := by kernel_rfl
theorem unlook_at1 : allFromK (unlook Tryz.prog) 66 66 = true := by kernel_rfl
theorem unlook_at2 : allFromK (unlook Tryz.prog) 132 66 = true := by kernel_rfl
theorem unlook_at3 : allFromK (unlook Tryz.prog) 198 66 = true := by kernel_rfl
theorem unlook_at4 : allFromK (unlook Tryz.prog) 264 66 = true := by kernel_rfl
theorem unlook_at5 : allFromK (unlook Tryz.prog) 330 66 = true := by kernel_rfl
theorem unlook_at6 : allFromK (unlook Tryz.prog) 396 66 = true := by kernel_rfl
theorem unlook_at7 : allFromK (unlook Tryz.prog) 462 66 = true := by kernel_rfl
theorem unlook_at8 : allFromK (unlook Tryz.prog) 528 66 = true := by kernel_rfl
theorem unlook_at9 : allFromK (unlook Tryz.prog) 594 66 = true := by kernel_rfl
theorem funcs_sizeK : Tryz.prog.funcs.size = 660 := by kernel_rfl
theorem unlook_all (g : Nat) : looksAt Tryz.prog g = false := by
  have h : unlook Tryz.prog g = true → looksAt Tryz.prog g = false := fun h => by
    unfold unlook at h
    cases e : looksAt Tryz.prog g with
    | false => rfl
    | true => rw [e] at h; cases h
  by_cases h0 : g < 66
  · exact h (allFromK_spec unlook_at0 g (by omega) (by omega))
  by_cases h1 : g < 132
  · exact h (allFromK_spec unlook_at1 g (by omega) (by omega))
  by_cases h2 : g < 198
  · exact h (allFromK_spec unlook_at2 g (by omega) (by omega))
  by_cases h3 : g < 264
  · exact h (allFromK_spec unlook_at3 g (by omega) (by omega))
  by_cases h4 : g < 330
  · exact h (allFromK_spec unlook_at4 g (by omega) (by omega))
  by_cases h5 : g < 396
  · exact h (allFromK_spec unlook_at5 g (by omega) (by omega))
  by_cases h6 : g < 462
  · exact h (allFromK_spec unlook_at6 g (by omega) (by omega))
  by_cases h7 : g < 528
  · exact h (allFromK_spec unlook_at7 g (by omega) (by omega))
  by_cases h8 : g < 594
  · exact h (allFromK_spec unlook_at8 g (by omega) (by omega))
  by_cases h9 : g < 660
  · exact h (allFromK_spec unlook_at9 g (by omega) (by omega))
  have e : Tryz.prog.funcs[g]? = none := Array.getElem?_eq_none (by rw [funcs_sizeK]; omega)
  unfold looksAt; rw [e]; rfl
theorem looks_none : Tryz.prog.looks [] = false := by
  unfold Program.looks
  rw [← Bool.not_eq_true, List.any_eq_true]
  rintro ⟨g, _, h⟩
  rw [Bool.and_eq_true] at h
  have h2 := unlook_all g
  unfold looksAt at h2
  exact Bool.noConfusion (h2.symm.trans h.2)
end Go.Proofs.YtnlaiahcemckkaaGreatDoor.Av
