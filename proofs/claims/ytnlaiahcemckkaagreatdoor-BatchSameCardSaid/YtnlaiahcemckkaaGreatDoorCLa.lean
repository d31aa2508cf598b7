/- Checking in parts. -/
import Derived.Test.YtnlaiahcemckkaaGreatDoorAvV
import Derived.Test.YtnlaiahcemckkaaGreatDoorProg
import Derived.KernelRfl
import Derived.DeepKeys4
import Derived.RowKit
set_option maxHeartbeats 4000000
set_option maxRecDepth 100000
namespace Go.Proofs.YtnlaiahcemckkaaGreatDoor.Av
open Go Go.Proofs Go.ChangeShapes Go.WideShapes Go.RowKit
def allFrom (p : Nat → Bool) (a : Nat) : Nat → Bool
  | 0 => true
  | k + 1 => p a && allFrom p (a + 1) k
theorem allFrom_spec {p : Nat → Bool} : ∀ {k a : Nat}, allFrom p a k = true → ∀ t, a ≤ t → t < a + k → p t = true
  | 0, a, _, t, h1, h2 => by omega
  | k + 1, a, h, t, h1, h2 => by
    simp only [allFrom, Bool.and_eq_true] at h
    by_cases e : t = a
    · subst e; exact h.1
    · exact allFrom_spec h.2 t (by omega) (by omega)
end Go.Proofs.YtnlaiahcemckkaaGreatDoor.Av
