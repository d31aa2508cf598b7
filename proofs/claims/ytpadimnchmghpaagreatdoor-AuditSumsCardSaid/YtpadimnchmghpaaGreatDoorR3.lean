import Derived.Test.YtpadimnchmghpaaGreatDoorAvZ
import Derived.Test.YtpadimnchmghpaaGreatDoorProg
import Derived.Tactics
import Derived.Test.YtpadimnchmghpaaGreatDoorN3
open Prod (fst)
open Int (tdiv tmod)
set_option linter.unusedVariables false
set_option linter.unusedSimpArgs false
set_option maxHeartbeats 4000000
set_option maxRecDepth 100000
namespace Go.Proofs.YtpadimnchmghpaaGreatDoor.Av
open Go Go.Proofs
noncomputable def w5of_L3_step (day_1 : Int) (r1 : ((List Int) × (List Int))) : Nat → Option (Nat ⊕ (Int ⊕ Unit)) := fun k7 =>
  if (↑k7 : Int) < (↑r1.1.length : Int) then
    if (↑k7 : Int) < (↑r1.2.length : Int) then
      (r1.1[k7]?).bind fun x14 =>
      if x14 = day_1 then
        (r1.2[k7]?).bind fun x17 =>
        some (Sum.inr (Sum.inl x17))
      else
        if InR .i64 ((↑k7 : Int) + 1) then
          some (Sum.inl (k7 + 1))
        else none
    else
      some (Sum.inr (Sum.inr (())))
  else
    some (Sum.inr (Sum.inr (())))
def w5of_L3_H (day_1 : Int) (r1 : ((List Int) × (List Int))) : Nat → St := fun (s : Nat) => S 35 [(1, .int .i64 day_1), (5, .vec 0 r1.1.length 1), (6, .vec 1 r1.2.length 1), (7, .int .i64 (↑s : Int))] [(bV (fl e_i64 r1.1) 3), (bV (fl e_i64 r1.2) 3)]
def w5of_L3_X (day_1 : Int) (r1 : ((List Int) × (List Int))) : (Int ⊕ Unit) → AEx := fun q => match q with | Sum.inl o => .ret | Sum.inr (o) => (.exit 0)
def w5of_L3_T (day_1 : Int) (r1 : ((List Int) × (List Int))) : (Int ⊕ Unit) → List (Nat × AV) := fun q => match q with | Sum.inl o => [(4, .int .i64 o)] | Sum.inr (o) => []
def w5of_L3_B (day_1 : Int) (r1 : ((List Int) × (List Int))) : (Int ⊕ Unit) → List Blk := fun q => match q with | Sum.inl o => [(bV (fl e_i64 r1.1) 3), (bV (fl e_i64 r1.2) 3)] | Sum.inr (o) => [(bV (fl e_i64 r1.1) 3), (bV (fl e_i64 r1.2) 3)]
def w5of_L3_E (day_1 : Int) (r1 : ((List Int) × (List Int))) (q : Int ⊕ Unit) : St := S 35 (w5of_L3_T day_1 r1 q) (w5of_L3_B day_1 r1 q)
theorem w5of_L3_does (day_1 : Int) (r1 : ((List Int) × (List Int))) {s : Nat} {r : Int ⊕ Unit} (h : lp (w5of_L3_step day_1 r1) s = some r) : Does Tryz.prog G0 2 (.loop (bodyAt Tryz.prog 26 [1, 1, 0, 1, 0, 0])) (w5of_L3_H day_1 r1 s) (w5of_L3_X day_1 r1 r) (w5of_L3_E day_1 r1 r) := by
  refine Does.lp (H := w5of_L3_H day_1 r1) (X := w5of_L3_X day_1 r1) (E := w5of_L3_E day_1 r1) (fun s s2 h => ?_) (fun s r h => ?_) h
  · revert h; revert s; intro k7 h
    unfold w5of_L3_step at h
    try dsimp only at h
    rcases itS h with ⟨c12, h⟩ | ⟨c12, h⟩
    · rcases itS h with ⟨c13, h⟩ | ⟨c13, h⟩
      · obtain ⟨x14, h15, h⟩ := bnS h
        rcases itS h with ⟨c16, h⟩ | ⟨c16, h⟩
        · obtain ⟨x17, h18, h⟩ := bnS h
          simp at h
        · obtain ⟨h19, h⟩ := gdS h
          obtain rfl := oL h
          exact Does.of_viewM 2 400 (cs 3 (oa :: oc :: tc :: (cs 2 (oa :: oc :: (.br true) :: (cs 2 [.op none (.i k7), vI x14, oc, oa, .br false, oc, ow, oc]))))) [0, 1] (by kernel_rfl) (by kernel_rfl) (k2 (decide_eq_true c12) (k2 (decide_eq_true c13) (k2 (ir h15) (k2 (s_i64 h15) (k2 (beq_f c16) (ok1 h19))))))
      · simp at h
    · simp at h
  · revert h; revert s; intro k7 h
    unfold w5of_L3_step at h
    try dsimp only at h
    let f404 : List CH := (cs 3 [oa, oc])
    rcases itS h with ⟨c12, h⟩ | ⟨c12, h⟩
    · let f405 : List CH := (tc :: (cs 2 [oa, oc]))
      rcases itS h with ⟨c13, h⟩ | ⟨c13, h⟩
      · obtain ⟨x14, h15, h⟩ := bnS h
        rcases itS h with ⟨c16, h⟩ | ⟨c16, h⟩
        · obtain ⟨x17, h18, h⟩ := bnS h
          obtain rfl := oR h
          exact ⟨Does.of_viewM 2 400 (f404 ++ (f405 ++ ((.br true) :: (cs 2 ((.op none (.i k7)) :: (vI x14) :: oc :: oa :: (.br true) :: (cs 2 [.op none (.i k7), vI x17, oc])))))) [0, 1] (by kernel_rfl) (by kernel_rfl) (k2 (decide_eq_true c12) (k2 (decide_eq_true c13) (k2 (ir h15) (k2 (s_i64 h15) (k2 (beq_t c16) (k2 (ir h18) (ok1 (s_i64 h18)))))))), by intro q; cases q⟩
        · obtain ⟨h19, h⟩ := gdS h
          simp at h
      · obtain rfl := oR h
        exact ⟨Does.of_viewM 2 400 (f404 ++ (f405 ++ [.br false])) [0, 1] (by kernel_rfl) (by kernel_rfl) (k2 (decide_eq_true c12) (ok1 (decide_eq_false c13))), by intro q; cases q⟩
    · obtain rfl := oR h
      exact ⟨Does.of_viewM 2 400 (f404 ++ ((.op (some false) .c) :: (cs 4 [.br false]))) [0, 1] (by kernel_rfl) (by kernel_rfl) (k2 (decide_eq_false c12) (ok1 (rfl : false = false))), by intro q; cases q⟩
noncomputable def w5of (l_0 : (List TC)) (day_1 : Int) : Option Int :=
  (bill_Days l_0).bind fun r1 =>
  (lp (w5of_L3_step day_1 r1) (0 : Nat)).bind fun qq => match qq with
  | Sum.inl o3 =>
    some o3
  | Sum.inr (o3) =>
    some 0
theorem w5of_ret (l_0 : (List TC)) (day_1 : Int) (r : Int) (h : w5of l_0 day_1 = some r) : Ret Tryz.prog G0 26 [.lst (fl TC.enc l_0) l_0.length, .int .i64 day_1] (.int .i64 r) [] := by
  unfold w5of at h
  obtain ⟨r1, h2, h⟩ := bnS h
  let f406 : List CH := (cs 2 ((.ret none [.any] (.tup [.vec 0 r1.1.length 1, .vec 1 r1.2.length 1]) [(bV (fl e_i64 r1.1) 3), (bV (fl e_i64 r1.2) 3)]) :: (cs 6 [])))
  obtain ⟨qq, hl3, h⟩ := bnS h
  rcases qq with o3 | o3
  · dsimp only at h
    obtain rfl := oI h
    exact Ret.of_view 400 (f406 ++ [.fcut 2 .ret [(4, .int .i64 o3)] (w5of_L3_B day_1 r1 (Sum.inl o3)) [0, 1] [(1, .any), (5, .any), (6, .any), (7, .int .i64 (↑(0 : Nat) : Int))] [bS, bS]]) [] (by kernel_rfl) (by kernel_rfl) (k2 (bill_Days_ret l_0 r1 h2) (k2 (rfl : (.int .i64 0 : AV) = .int .i64 (↑(0 : Nat) : Int)) (ok1 (w5of_L3_does day_1 r1 (s := (0 : Nat)) (r := Sum.inl o3) hl3))))
  · dsimp only at h
    obtain rfl := oI h
    exact Ret.of_view 400 (f406 ++ [.fcut 2 (.exit 0) [] (w5of_L3_B day_1 r1 (Sum.inr (o3))) [0, 1] [(1, .any), (5, .any), (6, .any), (7, .int .i64 (↑(0 : Nat) : Int))] [bS, bS], oc]) [] (by kernel_rfl) (by kernel_rfl) (k2 (bill_Days_ret l_0 r1 h2) (k2 (rfl : (.int .i64 0 : AV) = .int .i64 (↑(0 : Nat) : Int)) (ok1 (w5of_L3_does day_1 r1 (s := (0 : Nat)) (r := Sum.inr (o3)) hl3))))
end Go.Proofs.YtpadimnchmghpaaGreatDoor.Av
