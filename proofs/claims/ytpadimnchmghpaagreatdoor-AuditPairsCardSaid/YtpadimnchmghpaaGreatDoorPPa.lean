/- The audit: the law AuditPairs is true. (Plain.) -/
import Derived.Test.YtpadimnchmghpaaGreatDoorPLo
import Derived.Test.YtpadimnchmghpaaGreatDoorPSc
import Derived.Test.YtpadimnchmghpaaGreatDoorAPairs
set_option linter.unusedVariables false
set_option linter.unusedSimpArgs false
set_option maxHeartbeats 1000000
namespace Go.Proofs.YtpadimnchmghpaaGreatDoor.Av
open Go Go.Proofs
theorem ofK_one (x : Tapi_Charge) (k : Str) : ofK [x] k = if x.Key = k then some x else none := by rw [ofK_cons]; rfl
theorem ks_pair {x y : Tapi_Charge} (h : y.Key = x.Key) : ksR [x] [y] = [x.Key] := by
  refine asc_unique (ksR_asc _ _) (by simp [AscS]) fun k => ?_
  rw [ksR_mem, ofK_one, ofK_one, h, List.mem_singleton]
  by_cases e : x.Key = k
  · rw [if_pos e, if_pos e]; simp [e]
  · rw [if_neg e, if_neg e]; simp; exact fun h => e h.symm
theorem leafK_one {x : Tapi_Charge} {k : Str} (h : x.Key = k) : leafK [x] k = leafR x := by unfold leafK; rw [ofK_one, if_pos h]
theorem loc_pair {x y : Tapi_Charge} (h : y.Key = x.Key) (hd : leafR x ≠ leafR y) : locR [x] [y] = [findR [x] [y] x.Key] := by
  have hp : placesR [x] [y] = [0] := by
    unfold placesR diffR
    rw [ks_pair h]
    simp only [List.map_cons, List.map_nil, leafK_one rfl, leafK_one h]
    have ht : topD [leafR x] = 0 := by unfold topD; rw [levR_one (by simp)]; rfl
    rw [ht, if_pos]
    · rfl
    · unfold difD upN
      simpa using hd
  unfold locR
  rw [hp, ks_pair h]
  rfl
theorem tollwaylaw50_AuditPairs_true (a b : Tapi_Charge) (hwa : Tapi_Charge.wf a) (hwb : Tapi_Charge.wf b) : tollwaylaw50_AuditPairs a b = some true := by
  have hwc : Tapi_Charge.wf ⟨a.Key, b.Vehicle, b.System, b.Class, b.Time, b.Lines, b.Cents⟩ := ⟨hwa.1, hwb.2⟩
  unfold tollwaylaw50_AuditPairs
  generalize hc : (⟨a.Key, b.Vehicle, b.System, b.Class, b.Time, b.Lines, b.Cents⟩ : Tapi_Charge) = c at *
  have hk : c.Key = a.Key := by rw [← hc]
  have hC : c.Cents = b.Cents := by rw [← hc]
  obtain ⟨x, h1, h2⟩ := few_wf (l := [a, c]) ⟨by simp only [List.length_cons, List.length_nil]; decide, by
    intro z hz
    simp only [List.mem_cons, List.not_mem_nil, or_false] at hz
    rcases hz with rfl | rfl
    · exact hwa
    · exact hwc⟩
  refine bind_i h1 ?_
  cases x with
  | false => exact ite_f (by simp) (bind_i awake_true rfl)
  | true =>
    have kac := h2 rfl
    have ka : ChL [a] := ⟨by simp, fun z hz => kac.2.1 z (by simp at hz; simp [hz]), fun z hz => kac.2.2 z (by simp at hz; simp [hz])⟩
    have kc : ChL [c] := ⟨by simp, fun z hz => kac.2.1 z (by simp at hz; simp [hz]), fun z hz => kac.2.2 z (by simp at hz; simp [hz])⟩
    have wa := kac.2.1 a (by simp)
    have fa := kac.2.2 a (by simp)
    have wc := kac.2.1 c (by simp)
    have fc := kac.2.2 c (by simp)
    have la := descr_len wa fa
    have lc := descr_len wc fc
    refine ite_t rfl (bind_i (Locate_eq ka kc) (bind_i (SameCharge_eq (by have := fa.2.2.2.1; omega)) ?_))
    by_cases e : a = c
    · refine ite_t (by simpa using e) ?_
      rw [← e, loc_self]
      exact ite_t rfl (bind_i awake_true rfl)
    · refine ite_f (by simpa using e) (bind_i (Describe_eq wa fa) (bind_i (refHash_eq (by omega)) (bind_i (Describe_eq wc fc) (bind_i (refHash_eq (by omega)) ?_))))
      by_cases g : hashR (descr a) = hashR (descr c)
      · exact ite_t g (bind_i awake_true rfl)
      · refine ite_f g ?_
        rw [loc_pair hk g]
        refine ite_t rfl (bind_i (v := findR [a] [c] a.Key) rfl (ite_t rfl (ite_t ?_ (ite_t ?_ (bind_i awake_true rfl)))))
        · show centsO (ofK [a] a.Key) = a.Cents
          rw [ofK_one, if_pos rfl]; rfl
        · show centsO (ofK [c] a.Key) = b.Cents
          rw [ofK_one, if_pos hk]; exact hC
end Go.Proofs.YtpadimnchmghpaaGreatDoor.Av
