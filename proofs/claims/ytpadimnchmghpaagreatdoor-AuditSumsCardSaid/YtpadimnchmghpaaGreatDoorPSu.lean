import Derived.Test.YtpadimnchmghpaaGreatDoorPDe
import Derived.Test.YtpadimnchmghpaaGreatDoorASums
open Prod (fst)
open Int (tdiv tmod)
set_option linter.unusedVariables false
set_option linter.unusedSimpArgs false
set_option maxHeartbeats 1000000
namespace Go.Proofs.YtpadimnchmghpaaGreatDoor.Av
open Go Go.Proofs
theorem daysR_mem {a b : List TC} (ha : a.length ≤ 20) (hb : b.length ≤ 20) (x : TF) : x ∈ daysR a b ↔ x.Day ∈ kyI a b ∧ sumD a x.Day ≠ sumD b x.Day ∧ x = ⟨[], x.Day, sumD a x.Day, sumD b x.Day⟩ := by
  unfold daysR
  rw [List.mem_flatMap]
  constructor
  · rintro ⟨d, h1, h2⟩
    unfold fR at h2
    split at h2
    · cases h2
    · rename_i hne
      simp only [List.mem_singleton] at h2
      subst h2
      exact ⟨h1, hne, rfl⟩
  · rintro ⟨h1, h2, h3⟩
    refine ⟨x.Day, h1, ?_⟩
    unfold fR
    rw [if_neg h2]
    exact List.mem_singleton.2 h3
theorem sums_law {a b : List TC} (ha : a.length ≤ 20) (hb : b.length ≤ 20) (d : Int) : ∀ {m k : Nat} {v : Bool}, (daysR a b).length - k = m → k ≤ (daysR a b).length → v = ((daysR a b).take k).any (fun x => x.Day == d) →
    lp (w5AuditSums_L9_step a b d (daysR a b)) (v, k) = some (.inr ((daysR a b).any fun x => x.Day == d)) := by
  have hl := daysR_len ha hb
  intro m
  induction m with
  | zero =>
    intro k v hm hk hv
    have h : ¬ ((k : Int) < ((daysR a b).length : Int)) := by omega
    rw [List.take_of_length_le (by omega)] at hv
    rw [← hv]
    exact lp_end (by simp only [w5AuditSums_L9_step, h, ↓reduceIte])
  | succ m ih =>
    intro k v hm hk hv
    have hk2 : k < (daysR a b).length := by omega
    have h : ((k : Int) < ((daysR a b).length : Int)) := by omega
    have hx : (daysR a b)[k]? = some (daysR a b)[k] := List.getElem?_eq_getElem hk2
    have r1 : InR .i64 ((k : Int) + 1) := by rw [inR_i64]; omega
    obtain ⟨_, _, h3⟩ := (daysR_mem ha hb _).1 (List.getElem_mem hk2)
    have htk : (daysR a b).take (k + 1) = (daysR a b).take k ++ [(daysR a b)[k]] := List.take_succ_eq_append_getElem hk2
    generalize (daysR a b)[k] = x at *
    have e1 : x.Have = sumD a x.Day := congrArg TF.Have h3
    have e2 : x.Want = sumD b x.Day := congrArg TF.Want h3
    have hany : ((daysR a b).take (k + 1)).any (fun x => x.Day == d) = (v || x.Day == d) := by rw [htk, List.any_append, ← hv]; simp
    cases v with
    | true =>
      rw [lp_go (s' := (true, k + 1)) (by simp only [w5AuditSums_L9_step, h, hx, of_eq ha, of_eq hb, e1, e2, r1, ↓reduceIte, Option.bind_some])]
      exact ih (by omega) hk2 (by rw [hany]; rfl)
    | false =>
      rw [lp_go (s' := ((x.Day == d), k + 1)) (by simp only [w5AuditSums_L9_step, h, hx, of_eq ha, of_eq hb, e1, e2, r1, ↓reduceIte, Option.bind_some, Bool.false_eq_true])]
      exact ih (by omega) hk2 (by rw [hany]; rfl)
theorem sums_any {a b : List TC} (ha : a.length ≤ 20) (hb : b.length ≤ 20) (d : Int) : ((daysR a b).any fun x => x.Day == d) = !(sumD a d == sumD b d) := by
  by_cases h : sumD a d = sumD b d
  · rw [beq_t h]
    rw [List.any_eq_false.2]
    · rfl
    intro x hx
    obtain ⟨_, h2, _⟩ := (daysR_mem ha hb _).1 hx
    intro e
    have e' : x.Day = d := beq_iff_eq.1 e
    rw [e'] at h2
    exact h2 h
  · rw [beq_f h]
    rw [List.any_eq_true.2]
    · rfl
    have hk : d ∈ kyI a b := by
      rw [kyI_mem ha hb]
      by_cases h1 : d ∈ (daysP a).1
      · exact .inl h1
      · by_cases h2 : d ∈ (daysP b).1
        · exact .inr h2
        · rw [day_no ha h1, day_no hb h2] at h; exact absurd rfl h
    exact ⟨⟨[], d, sumD a d, sumD b d⟩, (daysR_mem ha hb _).2 ⟨hk, h, rfl⟩, beq_iff_eq.2 rfl⟩
theorem w5AuditSums_true (a b : List TC) (d : Int) (hwa : lwf TC.wf a) (hwb : lwf TC.wf b) (hd : InR .i64 d) : w5AuditSums a b d = some true := by
  obtain ⟨x, h1, h2⟩ := few_wf hwa
  obtain ⟨y, h3, h4⟩ := few_wf hwb
  unfold w5AuditSums
  refine bind_i h1 ?_
  cases x with
  | false => exact ite_f (by simp) (bind_i awake_true rfl)
  | true =>
    refine ite_t rfl (bind_i h3 ?_)
    cases y with
    | false => exact ite_f (by simp) (bind_i awake_true rfl)
    | true =>
      have ka := (h2 rfl).1
      have kb := (h4 rfl).1
      refine ite_t rfl (bind_i (Days_eq ka kb) (bind_i (sums_law ka kb d rfl (Nat.zero_le _) rfl) ?_))
      exact bind_i (of_eq ka d) (bind_i (of_eq kb d) (ite_t (sums_any ka kb d) (bind_i awake_true rfl)))
end Go.Proofs.YtpadimnchmghpaaGreatDoor.Av
