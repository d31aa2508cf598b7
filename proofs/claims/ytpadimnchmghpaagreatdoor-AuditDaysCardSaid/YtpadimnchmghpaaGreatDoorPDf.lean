import Derived.Test.YtpadimnchmghpaaGreatDoorPDe
open Prod (fst)
open Int (tdiv tmod)
set_option maxHeartbeats 1000000
set_option linter.unusedVariables false
set_option linter.unusedSimpArgs false
namespace Go.Proofs.YtpadimnchmghpaaGreatDoor.Av
open Go Go.Proofs
def lostT (a b : List TC) (k : Str) : Int := lostV (byK a) (k, (ofK b k).getD zeroC)
theorem sumV_map {a b : List TC} : ∀ {l : List KC}, (∀ y ∈ l, ofK b y.1 = some y.2) → sumV (byK a) l = (l.map fun y => lostT a b y.1).sum
 | [], _ => rfl
 | y :: l, h => by
  have h1 := h y (by simp)
  have h2 := sumV_map (a := a) (b := b) (l := l) fun z hz => h z (by simp [hz])
  simp only [sumV, List.map_cons, List.sum_cons, h2]
  congr 1
  unfold lostT
  rw [h1]
  rfl
theorem mrgK_nil : ∀ (m acc : List KC), ((acc ++ m).map fst).Nodup → mrgK fst acc m = acc ++ m
 | [], acc, _ => by simp [mrgK]
 | x :: m, acc, h => by
  have hx : setK fst acc x = acc ++ [x] := by
   have : ∀ y ∈ acc, y.1 ≠ x.1 := fun y hy e => by
    rw [List.map_append, List.nodup_append] at h
    exact h.2.2 y.1 (List.mem_map.2 ⟨y, hy, rfl⟩) x.1 (by simp) e
   clear h
   induction acc with
   | nil => rfl
   | cons y acc ih =>
    have h1 : ¬ y.1 = x.1 := this y (by simp)
    simp only [setK, if_neg h1, ih fun z hz => this z (by simp [hz]), List.cons_append]
  show mrgK fst (setK fst acc x) m = _
  rw [hx, mrgK_nil m (acc ++ [x]) (by rw [List.append_assoc]; exact h), List.append_assoc]
  rfl
theorem ksR_perm (b : List TC) : (ksR [] b).Perm ((byK b).map fst) := by
 have h : bothK [] b = byK b := by
  unfold bothK
  have : byK [] = [] := rfl
  rw [this, mrgK_nil (byK b) [] (by simpa using byK_nd b)]
  rfl
 unfold ksR
 rw [h]
 exact List.mergeSort_perm _ _
theorem byK_of {b : List TC} {y : KC} (h : y ∈ byK b) : ofK b y.1 = some y.2 := by
 have h1 := getK_eq (κ := fst) (byK_nd b) h
 rw [byK_at] at h1
 cases ho : ofK b y.1 with
 | none => rw [ho] at h1; cases h1
 | some x =>
  rw [ho] at h1
  simp only [Option.map_some, sJ] at h1
  have : x = y.2 := congrArg Prod.snd h1
  rw [this]
theorem lostR_sum (a b : List TC) : lostR a b = ((ksR [] b).map (lostT a b)).sum := by
 unfold lostR
 rw [sumV_map fun y hy => byK_of hy]
 have h := sum_perm ((ksR_perm b).map (lostT a b))
 rw [h, List.map_map]
 rfl
theorem lostT_R (a b : List TC) (k : Str) : 0 ≤ lostT a b k ∧ lostT a b k ≤ 1125899906842624 := lostV_le _ _
theorem refLost_eq {a b : List TC} (ha : ChL a) (hb : ChL b) : f50Lost a b = some (lostR a b) := by
 have hl := ksR_len [] b
 have hbl := hb.1
 have hal := ha.1
 simp only [List.length_nil, Nat.zero_add] at hl
 have key : ∀ {m k : Nat} {s : Int}, (ksR [] b).length - k = m → k ≤ (ksR [] b).length → 0 ≤ s → s + m * 1125899906842624 ≤ 9223372036854775807 → lp (f50Lost_L3_step a b (ksR [] b)) (s, k) = some (s + (((ksR [] b).drop k).map (lostT a b)).sum) := by
  intro m
  induction m with
  | zero =>
   intro k s hm hk h0 h1
   have h : ¬ ((k : Int) < ((ksR [] b).length : Int)) := by omega
   rw [lp_end (r := s) (by simp only [f50Lost_L3_step, h, ↓reduceIte]), List.drop_eq_nil_of_le (by omega)]
   simp
  | succ m ih =>
   intro k s hm hk h0 h1
   have hk2 : k < (ksR [] b).length := by omega
   have h : ((k : Int) < ((ksR [] b).length : Int)) := by omega
   have hx : (ksR [] b)[k]? = some (ksR [] b)[k] := List.getElem?_eq_getElem hk2
   have r1 : InR .i64 ((k : Int) + 1) := by rw [inR_i64]; omega
   have hd : (ksR [] b).drop k = (ksR [] b)[k] :: (ksR [] b).drop (k + 1) := List.drop_eq_getElem_cons hk2
   have hT := lostT_R a b (ksR [] b)[k]
   have step : f50Lost_L3_step a b (ksR [] b) (s, k) = some (.inl (s + lostT a b (ksR [] b)[k], k + 1)) := by
    generalize (ksR [] b)[k] = x at *
    have g1 := Of_eq (l := a) x (by omega)
    have g2 := Of_eq (l := b) x (by omega)
    have hT2 : lostT a b x = if (ofK a x).isSome = true then 0 else if ((ofK b x).getD zeroC).Cents ≥ 0 then if ((ofK b x).getD zeroC).Cents ≤ 1125899906842624 then ((ofK b x).getD zeroC).Cents else 0 else 0 := by
     unfold lostT lostV
     have e : (getK fst (byK a) x).isSome = (ofK a x).isSome := by rw [byK_at]; cases ofK a x <;> rfl
     show (if (getK fst (byK a) x).isSome = true then 0 else _) = _
     rw [e]
    have e1 : (ofR a x).2 = (ofK a x).isSome := by unfold ofR; cases ofK a x <;> rfl
    have e2 : (ofR b x).1 = (ofK b x).getD zeroC := by unfold ofR; cases ofK b x <;> rfl
    by_cases p1 : (ofK a x).isSome = true
    ·rw [if_pos p1] at hT2
     simp only [f50Lost_L3_step, h, hx, g1, g2, e1, p1, r1, hT2, ↓reduceIte, Option.bind_some, Int.add_zero]
    ·rw [if_neg p1] at hT2
     by_cases p2 : ((ofK b x).getD zeroC).Cents ≥ 0
     ·rw [if_pos p2] at hT2
      by_cases p3 : ((ofK b x).getD zeroC).Cents ≤ 1125899906842624
      ·rw [if_pos p3] at hT2
       have r2 : InR .i64 (s + ((ofK b x).getD zeroC).Cents) := by rw [inR_i64]; omega
       simp only [f50Lost_L3_step, h, hx, g1, g2, e1, e2, p1, p2, p3, r1, r2, hT2, ↓reduceIte, Option.bind_some, Bool.false_eq_true]
      ·rw [if_neg p3] at hT2
       simp only [f50Lost_L3_step, h, hx, g1, g2, e1, e2, p1, p2, p3, r1, hT2, ↓reduceIte, Option.bind_some, Int.add_zero, Bool.false_eq_true]
     ·rw [if_neg p2] at hT2
      simp only [f50Lost_L3_step, h, hx, g1, g2, e1, e2, p1, p2, r1, hT2, ↓reduceIte, Option.bind_some, Int.add_zero, Bool.false_eq_true]
   rw [lp_go step, ih (by omega) hk2 (by omega) (by omega), hd, List.map_cons, List.sum_cons]
   exact congrArg some (Int.add_assoc _ _ _)
 unfold f50Lost
 have hnil : ChL [] := ⟨by simp, by simp, by simp⟩
 rw [Keys_eq hnil hb, Option.bind_some, key rfl (Nat.zero_le _) (Int.le_refl _) (by omega), Option.bind_some, List.drop_zero, Int.zero_add, ← lostR_sum]
end Go.Proofs.YtpadimnchmghpaaGreatDoor.Av
