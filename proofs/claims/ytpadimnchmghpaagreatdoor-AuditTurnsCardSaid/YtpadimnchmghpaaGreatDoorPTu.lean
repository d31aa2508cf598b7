import Derived.Test.YtpadimnchmghpaaGreatDoorPDe
import Derived.Test.YtpadimnchmghpaaGreatDoorPSc
import Derived.Test.YtpadimnchmghpaaGreatDoorPLo
import Derived.Test.YtpadimnchmghpaaGreatDoorATurns
open Prod (fst)
open Int (tdiv tmod)
set_option linter.unusedVariables false
set_option linter.unusedSimpArgs false
set_option maxHeartbeats 1000000
namespace Go.Proofs.YtpadimnchmghpaaGreatDoor.Av
open Go Go.Proofs
theorem diffR_symm {a b : List Int} (h : a.length = b.length) : diffR a b = diffR b a := by
  have h1 : lenD a = lenD b := funext fun t => upN_len t h
  have h2 : difD a b = difD b a := funext fun t => funext fun i => by unfold difD; rw [decide_eq_decide]; exact ⟨fun h e => h e.symm, fun h e => h e.symm⟩
  have h3 : topD a = topD b := by unfold topD; rw [levR_len a.length (Nat.le_refl _) h]
  unfold diffR
  rw [h1, h2, h3]
theorem ksR_symm (a b : List TC) : ksR a b = ksR b a := asc_unique (ksR_asc a b) (ksR_asc b a) fun k => by rw [ksR_mem, ksR_mem]; exact Or.comm
theorem placesR_symm (a b : List TC) : placesR a b = placesR b a := by
  unfold placesR
  rw [ksR_symm b a, diffR_symm (by simp)]
theorem loc_swap {a b : List TC} {k : Nat} {x : TF} (h : (locR a b)[k]? = some x) : ∃ y, (locR b a)[k]? = some y ∧ x.Key = y.Key ∧ x.Have = y.Want ∧ x.Want = y.Have := by
  obtain ⟨i, h1, rfl⟩ := loc_at h
  refine ⟨findR b a ((ksR b a).getD i []), ?_, ?_⟩
  · unfold locR
    rw [List.getElem?_map, placesR_symm b a, h1]
    rfl
  · rw [ksR_symm b a]
    exact ⟨rfl, rfl, rfl⟩
theorem loc_lenS (a b : List TC) : (locR a b).length = (locR b a).length := by
  unfold locR
  rw [List.length_map, List.length_map, placesR_symm]
theorem kyI_symm {a b : List TC} (ha : a.length ≤ 20) (hb : b.length ≤ 20) : kyI a b = kyI b a := ascI_unique (kyI_asc ha hb) (kyI_asc hb ha) fun d => by rw [kyI_mem ha hb, kyI_mem hb ha]; exact Or.comm
noncomputable def dfI (a b : List TC) : List Int := (kyI a b).filter fun d => decide (sumD a d ≠ sumD b d)
theorem daysR_map (a b : List TC) : daysR a b = (dfI a b).map fun d => (⟨[], d, sumD a d, sumD b d⟩ : TF) := by
  unfold daysR dfI
  induction kyI a b with
  | nil => rfl
  | cons d l ih =>
    rw [List.flatMap_cons, ih]
    unfold fR
    by_cases h : sumD a d = sumD b d
    · simp [h]
    · simp [h]
theorem dfI_symm {a b : List TC} (ha : a.length ≤ 20) (hb : b.length ≤ 20) : dfI a b = dfI b a := by
  unfold dfI
  rw [kyI_symm ha hb]
  congr 1
  funext d
  rw [decide_eq_decide]
  exact ⟨fun h e => h e.symm, fun h e => h e.symm⟩
theorem dfI_asc {a b : List TC} (ha : a.length ≤ 20) (hb : b.length ≤ 20) : (dfI a b).Pairwise (· < ·) := (kyI_asc ha hb).filter _
theorem w5AuditTurns_true (a b : List TC) (hwa : lwf TC.wf a) (hwb : lwf TC.wf b) : w5AuditTurns a b = some true := by
  obtain ⟨x, h1, h2⟩ := few_wf hwa
  obtain ⟨y, h3, h4⟩ := few_wf hwb
  unfold w5AuditTurns
  refine bind_i h1 ?_
  cases x with
  | false => exact ite_f (by simp) (bind_i awake_true rfl)
  | true =>
    refine ite_t rfl (bind_i h3 ?_)
    cases y with
    | false => exact ite_f (by simp) (bind_i awake_true rfl)
    | true =>
      have ka := h2 rfl
      have kb := h4 rfl
      have hl1 := locR_len ka kb
      have hl2 := daysR_len ka.1 kb.1
      have hs1 := loc_lenS a b
      have hs2 : (daysR a b).length = (daysR b a).length := by rw [daysR_map, daysR_map, List.length_map, List.length_map, dfI_symm ka.1 kb.1]
      have L1 : ∀ {m k : Nat}, (locR a b).length - k = m → k ≤ (locR a b).length → lp (w5AuditTurns_L17_step (locR a b) (locR b a) (daysR a b) (daysR b a)) k = some (.inr ()) := by
        intro m
        induction m with
        | zero =>
          intro k hm hk
          have h : ¬ ((k : Int) < ((locR a b).length : Int)) := by omega
          exact lp_end (by simp only [w5AuditTurns_L17_step, h, ↓reduceIte])
        | succ m ih =>
          intro k hm hk
          have hk2 : k < (locR a b).length := by omega
          have h : ((k : Int) < ((locR a b).length : Int)) := by omega
          have hx : (locR a b)[k]? = some (locR a b)[k] := List.getElem?_eq_getElem hk2
          obtain ⟨z, g1, g2, g3, g4⟩ := loc_swap hx
          have r1 : InR .i64 ((k : Int) + 1) := by rw [inR_i64]; omega
          rw [lp_go (s' := k + 1) (by simp only [w5AuditTurns_L17_step, h, hx, g1, g2, g3, g4, r1, ↓reduceIte, Option.bind_some])]
          exact ih (by omega) hk2
      have hg : ∀ {p q : List TC} {k : Nat} {d : Int}, (dfI p q)[k]? = some d → (daysR p q)[k]? = some ⟨[], d, sumD p d, sumD q d⟩ := fun {p q k d} h => by rw [daysR_map, List.getElem?_map, h]; rfl
      have L2 : ∀ {m k : Nat}, (daysR a b).length - k = m → k ≤ (daysR a b).length → lp (w5AuditTurns_L36_step (daysR a b) (daysR b a)) k = some (.inr ()) := by
        have hlen : (daysR a b).length = (dfI a b).length := by rw [daysR_map, List.length_map]
        intro m
        induction m with
        | zero =>
          intro k hm hk
          have h : ¬ ((k : Int) < ((daysR a b).length : Int)) := by omega
          exact lp_end (by simp only [w5AuditTurns_L36_step, h, ↓reduceIte])
        | succ m ih =>
          intro k hm hk
          have hk2 : k < (dfI a b).length := by omega
          have h : ((k : Int) < ((daysR a b).length : Int)) := by omega
          have hd : (dfI a b)[k]? = some (dfI a b)[k] := List.getElem?_eq_getElem hk2
          have hd2 : (dfI b a)[k]? = some (dfI a b)[k] := by rw [← dfI_symm ka.1 kb.1]; exact hd
          have hne : ¬ sumD a (dfI a b)[k] = sumD b (dfI a b)[k] := of_decide_eq_true (List.mem_filter.1 (List.getElem_mem hk2)).2
          have r1 : InR .i64 ((k : Int) + 1) := by rw [inR_i64]; omega
          have x1 := hg hd
          have x2 := hg hd2
          by_cases h0 : k = 0
          · subst h0
            generalize (dfI a b)[0] = d at *
            have h5 : ¬ (((0 : Nat) : Int) > 0) := by omega
            rw [lp_go (s' := 0 + 1) (by simp only [w5AuditTurns_L36_step, h, x1, x2, hne, h5, r1, ↓reduceIte, Option.bind_some])]
            exact ih (by omega) (by omega)
          · have h5 : (k : Int) > 0 := by omega
            have e : (k : Int) - 1 = ((k - 1 : Nat) : Int) := by omega
            have r2 : InR .i64 ((k - 1 : Nat) : Int) := by rw [inR_i64]; omega
            have z : (0 : Int) ≤ ((k - 1 : Nat) : Int) := by omega
            have hk3 : k - 1 < (dfI a b).length := by omega
            have x3 := hg (p := a) (q := b) (List.getElem?_eq_getElem hk3)
            have hlt := List.pairwise_iff_getElem.1 (dfI_asc ka.1 kb.1) (k - 1) k hk3 hk2 (by omega)
            generalize (dfI a b)[k] = d at *
            generalize (dfI a b)[k - 1] = d' at *
            have h6 : ¬ d ≤ d' := by omega
            rw [lp_go (s' := k + 1) (by simp only [w5AuditTurns_L36_step, h, x1, x2, x3, hne, h5, e, r2, z, h6, r1, ↓reduceIte, Option.bind_some, Int.toNat_natCast])]
            exact ih (by omega) (by omega)
      exact ite_t rfl (bind_i (Locate_eq ka kb) (bind_i (Locate_eq kb ka) (bind_i (Days_eq ka.1 kb.1) (bind_i (Days_eq kb.1 ka.1) (ite_t (by omega) (ite_t (by omega) (bind_i (L1 rfl (Nat.zero_le _)) (bind_i (L2 rfl (Nat.zero_le _)) (bind_i awake_true rfl)))))))))
end Go.Proofs.YtpadimnchmghpaaGreatDoor.Av
