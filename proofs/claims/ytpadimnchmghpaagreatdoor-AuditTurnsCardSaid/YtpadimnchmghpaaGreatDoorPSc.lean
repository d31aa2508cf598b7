import Derived.Test.YtpadimnchmghpaaGreatDoorPAw
open Prod (fst)
open Int (tdiv tmod)
set_option linter.unusedVariables false
set_option linter.unusedSimpArgs false
set_option maxHeartbeats 1000000
namespace Go.Proofs.YtpadimnchmghpaaGreatDoor.Av
open Go Go.Proofs
instance : DecidableEq TL := fun a b => decidable_of_iff (a.Text = b.Text ∧ a.Cents = b.Cents) ⟨fun ⟨h1, h2⟩ => by cases a; cases b; simp only at h1 h2; rw [h1, h2], fun e => by rw [e]; exact ⟨rfl, rfl⟩⟩
instance : DecidableEq TC := fun a b => decidable_of_iff (a.Key = b.Key ∧ a.Vehicle = b.Vehicle ∧ a.System = b.System ∧ a.Class = b.Class ∧ a.Time = b.Time ∧ a.Lines = b.Lines ∧ a.Cents = b.Cents)
  ⟨fun ⟨h1, h2, h3, h4, h5, h6, h7⟩ => by cases a; cases b; simp only at h1 h2 h3 h4 h5 h6 h7; rw [h1, h2, h3, h4, h5, h6, h7], fun e => by rw [e]; exact ⟨rfl, rfl, rfl, rfl, rfl, rfl, rfl⟩⟩
theorem loc_at {a b : List TC} {k : Nat} {x : TF} (h : (locR a b)[k]? = some x) : ∃ i, (placesR a b)[k]? = some i ∧ x = findR a b ((ksR a b).getD i []) := by
  unfold locR at h
  rw [List.getElem?_map] at h
  cases hi : (placesR a b)[k]? with
  | none => rw [hi] at h; cases h
  | some i => rw [hi] at h; exact ⟨i, rfl, (Option.some.inj h).symm⟩
end Go.Proofs.YtpadimnchmghpaaGreatDoor.Av
