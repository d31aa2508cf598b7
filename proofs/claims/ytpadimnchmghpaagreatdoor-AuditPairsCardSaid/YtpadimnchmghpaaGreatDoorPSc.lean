/- The audit: charges compared, and what a finding says. (Plain.) -/
import Derived.Test.YtpadimnchmghpaaGreatDoorPAw
set_option linter.unusedVariables false
set_option linter.unusedSimpArgs false
set_option maxHeartbeats 1000000
namespace Go.Proofs.YtpadimnchmghpaaGreatDoor.Av
open Go Go.Proofs
instance : DecidableEq Tapi_Line := fun a b => decidable_of_iff (a.Text = b.Text ∧ a.Cents = b.Cents) ⟨fun ⟨h1, h2⟩ => by cases a; cases b; simp only at h1 h2; rw [h1, h2], fun e => by rw [e]; exact ⟨rfl, rfl⟩⟩
instance : DecidableEq Tapi_Charge := fun a b => decidable_of_iff (a.Key = b.Key ∧ a.Vehicle = b.Vehicle ∧ a.System = b.System ∧ a.Class = b.Class ∧ a.Time = b.Time ∧ a.Lines = b.Lines ∧ a.Cents = b.Cents)
  ⟨fun ⟨h1, h2, h3, h4, h5, h6, h7⟩ => by cases a; cases b; simp only at h1 h2 h3 h4 h5 h6 h7; rw [h1, h2, h3, h4, h5, h6, h7], fun e => by rw [e]; exact ⟨rfl, rfl, rfl, rfl, rfl, rfl, rfl⟩⟩
theorem SameLines_eq {a b : List Tapi_Line} (h : a.length ≤ 4294967296) : tollwayref24_SameLines a b = some (decide (a = b)) := by
  unfold tollwayref24_SameLines
  by_cases hl : a.length = b.length
  · have key := lp_all (l := a.zip b) (p := fun z => z.1.Text = z.2.Text ∧ z.1.Cents = z.2.Cents) (step := tollwayref24_SameLines_L2_step a b)
      (fun k z hz hp => by
        obtain ⟨h1, h2⟩ := List.getElem?_zip_eq_some.1 hz
        have hk := (List.getElem?_eq_some_iff.1 h1).1
        unfold tollwayref24_SameLines_L2_step
        rw [if_pos (by omega), h1, h2]
        simp only [Option.bind_some]
        rw [if_pos hp.1, if_pos hp.2, if_pos (by rw [inR_i64]; omega)])
      (fun k z hz hp => by
        obtain ⟨h1, h2⟩ := List.getElem?_zip_eq_some.1 hz
        have hk := (List.getElem?_eq_some_iff.1 h1).1
        unfold tollwayref24_SameLines_L2_step
        rw [if_pos (by omega), h1, h2]
        simp only [Option.bind_some]
        by_cases ht : z.1.Text = z.2.Text
        · rw [if_pos ht, if_neg (fun hc => hp ⟨ht, hc⟩)]
        · rw [if_neg ht])
      (by
        unfold tollwayref24_SameLines_L2_step
        rw [if_neg (by rw [List.length_zip]; omega)])
    rw [if_pos (by omega), key]
    by_cases hall : ∀ z ∈ a.zip b, z.1.Text = z.2.Text ∧ z.1.Cents = z.2.Cents
    · rw [if_pos hall]
      have : a = b := List.ext_getElem hl fun i h1 h2 => by
        have := hall (a[i], b[i]) (List.mem_of_getElem? (i := i) (List.getElem?_zip_eq_some.2 ⟨List.getElem?_eq_getElem h1, List.getElem?_eq_getElem h2⟩))
        revert this
        cases a[i]; cases b[i]
        rintro ⟨h3, h4⟩
        simp only at h3 h4
        rw [h3, h4]
      simp [this]
    · rw [if_neg hall]
      have : a ≠ b := fun e => hall (by
        subst e
        intro z hz
        obtain ⟨i, hi⟩ := List.mem_iff_getElem?.1 hz
        obtain ⟨h1, h2⟩ := List.getElem?_zip_eq_some.1 hi
        rw [h1] at h2
        have := Option.some.inj h2
        rw [this]; exact ⟨rfl, rfl⟩)
      simp [this]
  · rw [if_neg (by omega)]
    have : a ≠ b := fun e => hl (congrArg _ e)
    simp [this]
theorem SameCharge_eq {x y : Tapi_Charge} (h : x.Lines.length ≤ 4294967296) : tollwayref34_SameCharge x y = some (decide (x = y)) := by
  have f : ∀ {p : Prop} {A : Option Bool} [Decidable p], (p → A = some (decide (x = y))) → (x = y → p) → (if p then A else some false) = some (decide (x = y)) := fun {p A} _ h1 h2 => by
    by_cases hp : p
    · rw [if_pos hp]; exact h1 hp
    · rw [if_neg hp]
      have : ¬ x = y := fun e => hp (h2 e)
      simp [this]
  unfold tollwayref34_SameCharge
  refine f (fun h1 => f (fun h2 => f (fun h3 => f (fun h4 => f (fun h5 => f (fun h6 => ?_) (fun e => by rw [e])) (fun e => by rw [e])) (fun e => by rw [e])) (fun e => by rw [e])) (fun e => by rw [e])) (fun e => by rw [e])
  rw [SameLines_eq h]
  simp only [Option.bind_some, Option.some.injEq, decide_eq_decide]
  constructor
  · intro h7
    cases x; cases y
    simp only at h1 h2 h3 h4 h5 h6 h7
    subst h1 h2 h3 h4 h5 h6 h7
    rfl
  · intro e; rw [e]
end Go.Proofs.YtpadimnchmghpaaGreatDoor.Av
