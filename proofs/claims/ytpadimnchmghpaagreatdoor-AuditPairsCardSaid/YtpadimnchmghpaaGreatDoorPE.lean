/- The keys of two lists of charges, in ascending order: the program's and the reference's are the same. (Plain.) -/
import Derived.Test.YtpadimnchmghpaaGreatDoorPA
import Derived.Test.YtpadimnchmghpaaGreatDoorR1
import Derived.Test.YtpadimnchmghpaaGreatDoorSkD
set_option linter.unusedVariables false
set_option linter.unusedSimpArgs false
set_option maxHeartbeats 1000000
namespace Go.Proofs.YtpadimnchmghpaaGreatDoor.Av
open Go Go.Proofs
abbrev Str := List UInt8
def AscS (l : List Str) : Prop := l.Pairwise (· < ·)
theorem lt_tot {a b : Str} (h1 : ¬ a < b) (h2 : a ≠ b) : b < a :=
  Decidable.byContradiction fun h => h2 (List.le_antisymm (List.not_lt.1 h) (List.not_lt.1 h1))
/-- strictly ascending lists with the same elements -/
theorem asc_unique : ∀ {l m : List Str}, AscS l → AscS m → (∀ k, k ∈ l ↔ k ∈ m) → l = m := fun {l m} h1 h2 h => by
  have n1 : l.Nodup := h1.imp fun {a b} hab e => by subst e; exact List.lt_irrefl _ hab
  have n2 : m.Nodup := h2.imp fun {a b} hab e => by subst e; exact List.lt_irrefl _ hab
  exact List.Perm.eq_of_pairwise (le := (· < ·)) (fun a b _ _ h3 h4 => absurd (List.lt_trans h3 h4) (List.lt_irrefl _)) h1 h2 ((List.perm_ext_iff_of_nodup n1 n2).2 h)
end Go.Proofs.YtpadimnchmghpaaGreatDoor.Av
