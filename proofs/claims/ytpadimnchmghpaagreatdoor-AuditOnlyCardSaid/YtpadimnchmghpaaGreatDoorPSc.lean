/- The audit: charges compared, and what a finding says. (Plain.) -/
import Derived.Test.YtpadimnchmghpaaGreatDoorPAw
set_option linter.unusedVariables false
set_option linter.unusedSimpArgs false
set_option maxHeartbeats 1000000
namespace Go.Proofs.YtpadimnchmghpaaGreatDoor.Av
open Go Go.Proofs
instance : DecidableEq Tapi_Line := fun a b => decidable_of_iff (a.Text = b.Text ∧ a.Cents = b.Cents) ⟨fun ⟨h1, h2⟩ => by cases a; cases b; simp only at h1 h2; rw [h1, h2], fun e => by rw [e]; exact ⟨rfl, rfl⟩⟩
instance : DecidableEq Tapi_Charge := fun a b => decidable_of_iff (a.Key = b.Key ∧ a.Vehicle = b.Vehicle ∧ a.System = b.System ∧ a.Class = b.Class ∧ a.Time = b.Time ∧ a.Lines = b.Lines ∧ a.Cents = b.Cents)
  ⟨fun ⟨h1, h2, h3, h4, h5, h6, h7⟩ => by cases a; cases b; simp only at h1 h2 h3 h4 h5 h6 h7; rw [h1, h2, h3, h4, h5, h6, h7], fun e => by rw [e]; exact ⟨rfl, rfl, rfl, rfl, rfl, rfl, rfl⟩⟩
theorem SameLines_eq {a b : List Tapi_Line} (h : a.length ≤ 4294967296) : tollwayref24_SameLines a b = some (decide (a = b)) := by
  unfold tollwayref24_SameLines
  by_cases hl : a.length = b.length
  · have key := lp_all (l := a.zip b) (p := fun z => z.1.Text = z.2.Text ∧ z.1.Cents = z.2.Cents) (step := tollwayref24_SameLines_L2_step a b)
      (fun k z hz hp => by
        obtain ⟨h1, h2⟩ := List.getElem?_zip_eq_some.1 hz
        have hk := (List.getElem?_eq_some_iff.1 h1).1
        unfold tollwayref24_SameLines_L2_step
        rw [if_pos (by omega), h1, h2]
        simp only [Option.bind_some]
        rw [if_pos hp.1, if_pos hp.2, if_pos (by rw [inR_i64]; omega)])
      (fun k z hz hp => by
        obtain ⟨h1, h2⟩ := List.getElem?_zip_eq_some.1 hz
        have hk := (List.getElem?_eq_some_iff.1 h1).1
        unfold tollwayref24_SameLines_L2_step
        rw [if_pos (by omega), h1, h2]
        simp only [Option.bind_some]
        by_cases ht : z.1.Text = z.2.Text
        · rw [if_pos ht, if_neg (fun hc => hp ⟨ht, hc⟩)]
        · rw [if_neg ht])
      (by
        unfold tollwayref24_SameLines_L2_step
        rw [if_neg (by rw [List.length_zip]; omega)])
    rw [if_pos (by omega), key]
    by_cases hall : ∀ z ∈ a.zip b, z.1.Text = z.2.Text ∧ z.1.Cents = z.2.Cents
    · rw [if_pos hall]
      have : a = b := List.ext_getElem hl fun i h1 h2 => by
        have := hall (a[i], b[i]) (List.mem_of_getElem? (i := i) (List.getElem?_zip_eq_some.2 ⟨List.getElem?_eq_getElem h1, List.getElem?_eq_getElem h2⟩))
        revert this
        cases a[i]; cases b[i]
        rintro ⟨h3, h4⟩
        simp only at h3 h4
        rw [h3, h4]
      simp [this]
    · rw [if_neg hall]
      have : a ≠ b := fun e => hall (by
        subst e
        intro z hz
        obtain ⟨i, hi⟩ := List.mem_iff_getElem?.1 hz
        obtain ⟨h1, h2⟩ := List.getElem?_zip_eq_some.1 hi
        rw [h1] at h2
        have := Option.some.inj h2
        rw [this]; exact ⟨rfl, rfl⟩)
      simp [this]
  · rw [if_neg (by omega)]
    have : a ≠ b := fun e => hl (congrArg _ e)
    simp [this]
theorem SameCharge_eq {x y : Tapi_Charge} (h : x.Lines.length ≤ 4294967296) : tollwayref34_SameCharge x y = some (decide (x = y)) := by
  have f : ∀ {p : Prop} {A : Option Bool} [Decidable p], (p → A = some (decide (x = y))) → (x = y → p) → (if p then A else some false) = some (decide (x = y)) := fun {p A} _ h1 h2 => by
    by_cases hp : p
    · rw [if_pos hp]; exact h1 hp
    · rw [if_neg hp]
      have : ¬ x = y := fun e => hp (h2 e)
      simp [this]
  unfold tollwayref34_SameCharge
  refine f (fun h1 => f (fun h2 => f (fun h3 => f (fun h4 => f (fun h5 => f (fun h6 => ?_) (fun e => by rw [e])) (fun e => by rw [e])) (fun e => by rw [e])) (fun e => by rw [e])) (fun e => by rw [e])) (fun e => by rw [e])
  rw [SameLines_eq h]
  simp only [Option.bind_some, Option.some.injEq, decide_eq_decide]
  constructor
  · intro h7
    cases x; cases y
    simp only at h1 h2 h3 h4 h5 h6 h7
    subst h1 h2 h3 h4 h5 h6 h7
    rfl
  · intro e; rw [e]
theorem bytesLess_lt : ∀ {a b : List UInt8}, a < b → Op.bytesLess a b = true
  | a, [], h => by simp at h
  | [], b :: y, h => rfl
  | a :: x, b :: y, h => by
    rcases List.cons_lt_cons_iff.1 h with h1 | ⟨h1, h2⟩
    · simp [Op.bytesLess, h1]
    · simp [Op.bytesLess, h1, bytesLess_lt h2]
theorem places_asc (a b : List Tapi_Charge) : (placesR a b).Pairwise (· < ·) := by
  unfold placesR diffR
  split
  · exact ED_asc _ _
  · exact List.Pairwise.nil
theorem places_dif {a b : List Tapi_Charge} {i : Nat} (h : i ∈ placesR a b) : leafK a ((ksR a b).getD i []) ≠ leafK b ((ksR a b).getD i []) := by
  have hlt := places_lt h
  unfold placesR diffR at h
  split at h
  · rename_i hd
    have := ED_dif (len := lenD ((ksR a b).map (leafK a))) (dif := difD ((ksR a b).map (leafK a)) ((ksR a b).map (leafK b))) (topD ((ksR a b).map (leafK a)))
      (fun t i _ hl => difD_lone (by simp) hl) _ _ (Nat.le_refl _) hd h
    have := of_decide_eq_true this
    intro e
    apply this
    simp only [upN, List.getElem?_map]
    rw [getD_some [] hlt]
    simp only [Option.map_some, e]
  · cases h
theorem ofR_ok (l : List Tapi_Charge) (k : Str) : (ofR l k).2 = (ofK l k).isSome := by
  unfold ofR
  cases ofK l k <;> rfl
theorem ofR_cents (l : List Tapi_Charge) (k : Str) : (ofR l k).1.Cents = centsO (ofK l k) := by
  unfold ofR
  cases ofK l k <;> rfl
theorem loc_at {a b : List Tapi_Charge} {k : Nat} {x : Tapi_Finding} (h : (locR a b)[k]? = some x) : ∃ i, (placesR a b)[k]? = some i ∧ x = findR a b ((ksR a b).getD i []) := by
  unfold locR at h
  rw [List.getElem?_map] at h
  cases hi : (placesR a b)[k]? with
  | none => rw [hi] at h; cases h
  | some i => rw [hi] at h; exact ⟨i, rfl, (Option.some.inj h).symm⟩
theorem loc_asc {a b : List Tapi_Charge} {k : Nat} {x y : Tapi_Finding} (hx : (locR a b)[k]? = some x) (hy : (locR a b)[k + 1]? = some y) : Op.bytesLess x.Key y.Key = true := by
  obtain ⟨i, hi, rfl⟩ := loc_at hx
  obtain ⟨j, hj, rfl⟩ := loc_at hy
  have h1 := places_lt (List.mem_of_getElem? hi)
  have h2 := places_lt (List.mem_of_getElem? hj)
  obtain ⟨g1, e1⟩ := List.getElem?_eq_some_iff.1 hi
  obtain ⟨g2, e2⟩ := List.getElem?_eq_some_iff.1 hj
  have hij : i < j := by
    have := (List.pairwise_iff_getElem.1 (places_asc a b)) k (k + 1) g1 g2 (by omega)
    rw [e1, e2] at this; exact this
  have := (List.pairwise_iff_getElem.1 (ksR_asc a b)) i j h1 h2 hij
  refine bytesLess_lt ?_
  show (ksR a b).getD i [] < (ksR a b).getD j []
  rw [List.getD_eq_getElem?_getD, List.getD_eq_getElem?_getD, List.getElem?_eq_getElem h1, List.getElem?_eq_getElem h2]
  exact this
theorem loc_some {a b : List Tapi_Charge} {k : Nat} {x : Tapi_Finding} (h : (locR a b)[k]? = some x) : (ofR a x.Key).2 = true ∨ (ofR b x.Key).2 = true := by
  obtain ⟨i, hi, rfl⟩ := loc_at h
  have h1 := places_lt (List.mem_of_getElem? hi)
  rw [ofR_ok, ofR_ok]
  show (ofK a ((ksR a b).getD i [])).isSome = true ∨ (ofK b ((ksR a b).getD i [])).isSome = true
  exact ksR_mem.1 (List.mem_of_getElem? (getD_some [] h1))
theorem loc_dif {a b : List Tapi_Charge} {k : Nat} {x : Tapi_Finding} (h : (locR a b)[k]? = some x) (h1 : (ofR a x.Key).2 = true) (h2 : (ofR b x.Key).2 = true) : ¬ (ofR a x.Key).1 = (ofR b x.Key).1 := by
  obtain ⟨i, hi, rfl⟩ := loc_at h
  have hd := places_dif (List.mem_of_getElem? hi)
  intro e
  apply hd
  generalize hk : (ksR a b).getD i [] = K at *
  change (ofR a K).2 = true at h1
  change (ofR b K).2 = true at h2
  change (ofR a K).1 = (ofR b K).1 at e
  unfold leafK
  unfold ofR at h1 h2 e
  cases ha : ofK a K with
  | none => rw [ha] at h1; cases h1
  | some u => cases hb : ofK b K with
    | none => rw [hb] at h2; cases h2
    | some v =>
      rw [ha, hb] at e
      simp only at e
      simp only [e]
end Go.Proofs.YtpadimnchmghpaaGreatDoor.Av
