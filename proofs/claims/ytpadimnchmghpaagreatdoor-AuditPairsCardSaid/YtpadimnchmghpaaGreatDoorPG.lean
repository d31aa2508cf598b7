/- Few charges; the reference's Locate; what is missing. (Plain.) -/
import Derived.Test.YtpadimnchmghpaaGreatDoorPF
import Derived.Test.YtpadimnchmghpaaGreatDoorL0
set_option linter.unusedVariables false
set_option linter.unusedSimpArgs false
set_option maxHeartbeats 1000000
namespace Go.Proofs.YtpadimnchmghpaaGreatDoor.Av
open Go Go.Proofs
theorem lp_all {α : Type} {l : List α} {p : α → Prop} [DecidablePred p] {step : Nat → Option (Nat ⊕ (Unit ⊕ Unit))} (h1 : ∀ k x, l[k]? = some x → p x → step k = some (.inl (k + 1))) (h2 : ∀ k x, l[k]? = some x → ¬ p x → step k = some (.inr (.inl ())))
    (h3 : step l.length = some (.inr (.inr ()))) : lp step 0 = some (if ∀ x ∈ l, p x then .inr () else .inl ()) := by
  have key := lp_foldE0 (l := l) (mk := fun (_ : Unit) k => k) (step := step) (g := fun _ x => if p x then .inr () else .inl (.inl ())) (out := fun _ => .inr ()) (fun _ _ => True)
    (fun k x u hx _ => ⟨by by_cases hp : p x <;> simp only [hp, if_true, if_false] <;> first | exact h1 k x hx hp | exact h2 k x hx hp, fun _ _ => trivial⟩) (fun u _ => h3) (a := ()) trivial
  rw [key]
  congr 1
  clear key h1 h2 h3
  induction l with
  | nil => simp [foldE]
  | cons x l ih =>
    unfold foldE
    by_cases hp : p x
    · simp only [hp, if_true]
      rw [ih]
      simp [hp]
    · simp [hp]
instance (x : Tapi_Charge) : Decidable (ChF x) := by unfold ChF; infer_instance
instance (x : Tapi_Charge) : Decidable (ChW x) := by unfold ChW; infer_instance
def ChS (x : Tapi_Charge) : Prop := x.Lines.length ≤ 9223372036854775807
theorem few_tot {l : List Tapi_Charge} (hl : l.length ≤ 9223372036854775807) (hs : ∀ x ∈ l, ChS x) : ∃ b, tollwaylaw50_few l = some b ∧ (b = true → l.length ≤ 20 ∧ ∀ x ∈ l, ChF x) := by
  have inner : ∀ (k3 : Nat) (x : Tapi_Charge), l[k3]? = some x → lp (tollwaylaw50_few_L32_step l k3 x) 0 = some (if ∀ y ∈ x.Lines, y.Text.length ≤ 80 then .inr () else .inl ()) := fun k3 x hx => by
    have hlx : x.Lines.length ≤ 9223372036854775807 := hs x (List.mem_of_getElem? hx)
    refine lp_all (p := fun y : Tapi_Line => y.Text.length ≤ 80) (fun k y hy hp => ?_) (fun k y hy hp => ?_) ?_
    · have hk := (List.getElem?_eq_some_iff.1 hy).1
      exact bind_i hx (ite_t (by omega) (bind_i hy (ite_f (by omega) (guard_i (by rw [inR_i64]; omega) rfl))))
    · have hk := (List.getElem?_eq_some_iff.1 hy).1
      exact bind_i hx (ite_t (by omega) (bind_i hy (ite_t (by omega) rfl)))
    · exact bind_i hx (ite_f (by omega) rfl)
  have outer : lp (tollwaylaw50_few_L1_step l) 0 = some (if ∀ x ∈ l, ChF x then .inr () else .inl ()) := by
    refine lp_all (fun k x hx hp => ?_) (fun k x hx hp => ?_) (ite_f (by omega) rfl)
    · have hk := (List.getElem?_eq_some_iff.1 hx).1
      obtain ⟨p1, p2, p3, p4, p5⟩ := hp
      have hin := inner k x hx
      rw [if_pos p5] at hin
      exact ite_t (by omega) (bind_i hx (ite_f (by omega) (ite_f (by omega) (ite_f (by omega) (ite_f (by omega) (bind_i hin (guard_i (by rw [inR_i64]; omega) rfl)))))))
    · have hk := (List.getElem?_eq_some_iff.1 hx).1
      refine ite_t (by omega) (bind_i hx ?_)
      by_cases q1 : x.Key.length ≤ 80
      · refine ite_f (by omega) ?_
        by_cases q2 : x.Vehicle.length ≤ 80
        · refine ite_f (by omega) ?_
          by_cases q3 : x.System.length ≤ 80
          · refine ite_f (by omega) ?_
            by_cases q4 : x.Lines.length ≤ 8
            · have hin := inner k x hx
              rw [if_neg (fun q5 => hp ⟨q1, q2, q3, q4, q5⟩)] at hin
              exact ite_f (by omega) (bind_i hin rfl)
            · exact ite_t (by omega) rfl
          · exact ite_t (by omega) rfl
        · exact ite_t (by omega) rfl
      · exact ite_t (by omega) rfl
  unfold tollwaylaw50_few
  by_cases h : ∀ x ∈ l, ChF x
  · refine ⟨decide (l.length ≤ 20), bind_i outer ?_, fun hb => ⟨of_decide_eq_true hb, h⟩⟩
    rw [if_pos h]
    simp only [Option.some.injEq]
    congr 1
    simp only [eq_iff_iff]; omega
  · refine ⟨false, bind_i outer ?_, fun hb => by cases hb⟩
    rw [if_neg h]
theorem sameFind_refl {a : List Tapi_Finding} (h : a.length ≤ 4294967296) : tollwayref50_SameFindings a a = some true := by
  unfold tollwayref50_SameFindings
  refine ite_t rfl (bind_i (lp_all (l := a) (p := fun _ => True) (fun k x hx _ => ?_) (fun k x hx hp => absurd trivial hp) (ite_f (by omega) rfl)) ?_)
  · have hk := (List.getElem?_eq_some_iff.1 hx).1
    exact ite_t (by omega) (bind_i hx (bind_i hx (ite_t rfl (ite_t rfl (ite_t rfl (ite_t rfl (guard_i (by rw [inR_i64]; omega) rfl)))))))
  · simp
/-! ### what is missing -/
def lostV (m : List KC) (y : KC) : Int := if (getK Prod.fst m y.1).isSome = true then 0 else if y.2.Cents ≥ 0 then if y.2.Cents ≤ 1125899906842624 then y.2.Cents else 0 else 0
def sumV (m : List KC) : List KC → Int
  | [] => 0
  | y :: l => lostV m y + sumV m l
theorem lostV_le (m : List KC) (y : KC) : 0 ≤ lostV m y ∧ lostV m y ≤ 1125899906842624 := by
  unfold lostV
  split
  · omega
  · split
    · split <;> omega
    · omega
theorem lost_fold {m : List KC} : ∀ (l : List KC) (s : Int), 0 ≤ s → s + l.length * 1125899906842624 ≤ 9223372036854775807 → l.foldlM (lost_step m) s = some (s + sumV m l)
  | [], s, h0, h1 => by simp [sumV]
  | y :: l, s, h0, h1 => by
    have hv := lostV_le m y
    simp only [List.length_cons] at h1
    have hst : lost_step m s y = some (s + lostV m y) := by
      by_cases h : (getK Prod.fst m y.1).isSome = true
      · obtain ⟨q, hq⟩ := Option.isSome_iff_exists.1 h
        have e : lostV m y = 0 := by unfold lostV; rw [if_pos h]
        rw [e]
        exact ite_t h (bind_i hq (by rw [Int.add_zero]))
      · by_cases h2 : y.2.Cents ≥ 0
        · by_cases h3 : y.2.Cents ≤ 1125899906842624
          · have e : lostV m y = y.2.Cents := by unfold lostV; rw [if_neg h, if_pos h2, if_pos h3]
            rw [e] at hv ⊢
            exact ite_f h (ite_t h2 (ite_t h3 (guard_i (by rw [inR_i64]; omega) rfl)))
          · have e : lostV m y = 0 := by unfold lostV; rw [if_neg h, if_pos h2, if_neg h3]
            rw [e]
            exact ite_f h (ite_t h2 (ite_f h3 (by rw [Int.add_zero])))
        · have e : lostV m y = 0 := by unfold lostV; rw [if_neg h, if_neg h2]
          rw [e]
          exact ite_f h (ite_f h2 (by rw [Int.add_zero]))
    rw [List.foldlM_cons, hst]
    show l.foldlM (lost_step m) (s + lostV m y) = _
    rw [lost_fold l _ (by omega) (by omega)]
    congr 1
    simp only [sumV]; omega
theorem sumV_perm {m : List KC} {l l' : List KC} (h : l.Perm l') : sumV m l = sumV m l' := by
  induction h with
  | nil => rfl
  | cons x _ ih => simp only [sumV, ih]
  | swap x y l => simp only [sumV]; omega
  | trans _ _ ih1 ih2 => exact ih1.trans ih2
def lostR (a b : List Tapi_Charge) : Int := sumV (byK a) (byK b)
theorem Lost_eq {a b : List Tapi_Charge} (ha : a.length ≤ 20) (hb : b.length ≤ 20) : audit_Lost a b = some (lostR a b) := by
  unfold audit_Lost
  refine bind_i (byK_loop (by omega)) (bind_i (byK_loop (l := b) (by omega)) (bind_i (mlp_eq fun l' hp => ?_) rfl))
  have hl := byK_len b []
  have h2 := hp.length_eq
  simp only [List.length_nil, Nat.zero_add] at hl
  unfold byK at h2
  rw [lost_fold l' 0 (by omega) (by omega), sumV_perm hp, Int.zero_add]
  rfl
end Go.Proofs.YtpadimnchmghpaaGreatDoor.Av
