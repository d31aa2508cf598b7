/- The audit: the law AuditOnly is true. (Plain.) -/
import Derived.Test.YtpadimnchmghpaaGreatDoorPLo
import Derived.Test.YtpadimnchmghpaaGreatDoorPSc
import Derived.Test.YtpadimnchmghpaaGreatDoorAOnly
set_option linter.unusedVariables false
set_option linter.unusedSimpArgs false
set_option maxHeartbeats 1000000
namespace Go.Proofs.YtpadimnchmghpaaGreatDoor.Av
open Go Go.Proofs
theorem only_tail {f : List Tapi_Finding} {k : Nat} {x : Tapi_Finding} {u v : Int} (h1 : x.Have = u) (h2 : x.Want = v) (hk : k + 1 ≤ 4294967296) (ha : 0 < k → ∃ y, f[k - 1]? = some y ∧ Op.bytesLess y.Key x.Key = true) :
    (if x.Have = u then
      if x.Want = v then
        if (↑k : Int) > (0 : Int) then
          if InR .i64 ((↑k : Int) - 1) then
            if (0 : Int) ≤ ((↑k : Int) - 1) then
              (f[(Int.toNat ((↑k : Int) - 1))]?).bind fun x70 =>
              if (Op.bytesLess x70.Key x.Key) = true then
                if InR .i64 ((↑k : Int) + 1) then
                  some (Sum.inl (k + 1))
                else none
              else
                some (Sum.inr (Sum.inl ()))
            else none
          else none
        else
          if InR .i64 ((↑k : Int) + 1) then
            some (Sum.inl (k + 1))
          else none
      else
        some (Sum.inr (Sum.inl ()))
    else
      some (Sum.inr (Sum.inl ()))) = (some (Sum.inl (k + 1)) : Option (Nat ⊕ (Unit ⊕ Unit))) := by
  have hi : InR .i64 ((↑k : Int) + 1) := by rw [inR_i64]; omega
  rw [if_pos h1, if_pos h2]
  by_cases h0 : 0 < k
  · obtain ⟨y, hy, hl⟩ := ha h0
    rw [if_pos (by omega), if_pos (by rw [inR_i64]; omega), if_pos (by omega), show Int.toNat ((↑k : Int) - 1) = k - 1 by omega, hy]
    simp only [Option.bind_some]
    rw [if_pos hl, if_pos hi]
  · rw [if_neg (by omega), if_pos hi]
theorem only_step {a b : List Tapi_Charge} (ha : ChL a) (hb : ChL b) {k : Nat} {x : Tapi_Finding} (hx : (locR a b)[k]? = some x) : tollwaylaw50_AuditOnly_L9_step a b (locR a b) k = some (.inl (k + 1)) := by
  have hlen := locR_len ha hb
  have hk := (List.getElem?_eq_some_iff.1 hx).1
  have hH : x.Have = (ofR a x.Key).1.Cents := by
    obtain ⟨i, hi, rfl⟩ := loc_at hx
    rw [ofR_cents]; rfl
  have hW : x.Want = (ofR b x.Key).1.Cents := by
    obtain ⟨i, hi, rfl⟩ := loc_at hx
    rw [ofR_cents]; rfl
  have tail := only_tail (f := locR a b) (k := k) hH hW (by omega) (fun h0 => by
    have h1 : k - 1 < (locR a b).length := by omega
    refine ⟨(locR a b)[k - 1], List.getElem?_eq_getElem h1, ?_⟩
    refine loc_asc (List.getElem?_eq_getElem h1) ?_
    rw [show k - 1 + 1 = k by omega]; exact hx)
  have la := ha.1
  have lb := hb.1
  have hs := loc_some hx
  have hd := loc_dif hx
  unfold tollwaylaw50_AuditOnly_L9_step
  rw [if_pos (by omega), hx]
  simp only [Option.bind_some]
  rw [Of_eq x.Key (by omega), Of_eq x.Key (by omega)]
  simp only [Option.bind_some]
  cases h1 : (ofR a x.Key).2 with
  | true =>
    rw [if_pos rfl]
    cases h2 : (ofR b x.Key).2 with
    | true =>
      rw [if_pos rfl, SameCharge_eq]
      · simp only [Option.bind_some]
        rw [if_neg (by simpa using hd h1 h2)]
        exact tail
      · unfold ofR
        cases hk : ofK a x.Key with
        | none => exact Nat.zero_le _
        | some y =>
          have := (ha.2.2 y (ofK_mem hk).1).2.2.2.1
          show y.Lines.length ≤ 4294967296
          omega
    | false =>
      rw [if_neg (by simp)]
      exact tail
  | false =>
    rw [if_neg (by simp)]
    rw [h1] at hs
    rw [if_pos (hs.resolve_left (by simp))]
    exact tail
theorem tollwaylaw50_AuditOnly_true (a b : List Tapi_Charge) (hwa : lwf Tapi_Charge.wf a) (hwb : lwf Tapi_Charge.wf b) : tollwaylaw50_AuditOnly a b = some true := by
  obtain ⟨x, h1, h2⟩ := few_wf hwa
  obtain ⟨y, h3, h4⟩ := few_wf hwb
  unfold tollwaylaw50_AuditOnly
  refine bind_i h1 ?_
  cases x with
  | false => exact ite_f (by simp) (bind_i awake_true rfl)
  | true =>
    refine ite_t rfl (bind_i h3 ?_)
    cases y with
    | false => exact ite_f (by simp) (bind_i awake_true rfl)
    | true =>
      have ka := h2 rfl
      have kb := h4 rfl
      have hl := lp_all (l := locR a b) (p := fun _ => True) (step := tollwaylaw50_AuditOnly_L9_step a b (locR a b)) (fun k x hx _ => only_step ka kb hx) (fun k x hx h => absurd trivial h)
        (by unfold tollwaylaw50_AuditOnly_L9_step; rw [if_neg (by omega)])
      rw [if_pos (fun _ _ => trivial)] at hl
      refine ite_t rfl (bind_i (Locate_eq ka kb) (bind_i hl (bind_i (Locate_eq ka ka) ?_)))
      rw [loc_self]
      exact ite_t rfl (bind_i awake_true rfl)
end Go.Proofs.YtpadimnchmghpaaGreatDoor.Av
