import Derived.Test.YtpadimnchmghpaaGreatDoorAvZ
import Derived.Test.YtpadimnchmghpaaGreatDoorProg
import Derived.Tactics
import Derived.Test.YtpadimnchmghpaaGreatDoorR0
import Derived.Test.YtpadimnchmghpaaGreatDoorN2
open Prod (fst)
open Int (tdiv tmod)
set_option linter.unusedVariables false
set_option linter.unusedSimpArgs false
set_option maxHeartbeats 4000000
set_option maxRecDepth 100000
namespace Go.Proofs.YtpadimnchmghpaaGreatDoor.Av
open Go Go.Proofs
noncomputable def f50SameFindings_L2_step (a_0 : (List TF)) (b_1 : (List TF)) : Nat → Option (Nat ⊕ (Unit ⊕ Unit)) := fun k5 =>
  if (↑k5 : Int) < (↑a_0.length : Int) then
    (a_0[k5]?).bind fun x14 =>
    (b_1[k5]?).bind fun x16 =>
    if x14.Key = x16.Key then
      if x14.Day = x16.Day then
        if x14.Have = x16.Have then
          if x14.Want = x16.Want then
            if InR .i64 ((↑k5 : Int) + 1) then
              some (Sum.inl (k5 + 1))
            else none
          else
            some (Sum.inr (Sum.inl ()))
        else
          some (Sum.inr (Sum.inl ()))
      else
        some (Sum.inr (Sum.inl ()))
    else
      some (Sum.inr (Sum.inl ()))
  else
    some (Sum.inr (Sum.inr (())))
def f50SameFindings_L2_H (a_0 : (List TF)) (b_1 : (List TF)) : Nat → St := fun (s : Nat) => S 67 [(0, .lst (fl TF.enc a_0) a_0.length), (1, .lst (fl TF.enc b_1) b_1.length), (5, .int .i64 (↑s : Int))] []
def f50SameFindings_L2_X (a_0 : (List TF)) (b_1 : (List TF)) : (Unit ⊕ Unit) → AEx := fun q => match q with | Sum.inl o => .ret | Sum.inr (o) => (.exit 0)
def f50SameFindings_L2_T (a_0 : (List TF)) (b_1 : (List TF)) : (Unit ⊕ Unit) → List (Nat × AV) := fun q => match q with | Sum.inl o => [(4, .bool false)] | Sum.inr (o) => []
def f50SameFindings_L2_B (a_0 : (List TF)) (b_1 : (List TF)) : (Unit ⊕ Unit) → List Blk := fun q => match q with | Sum.inl o => [] | Sum.inr (o) => []
def f50SameFindings_L2_E (a_0 : (List TF)) (b_1 : (List TF)) (q : Unit ⊕ Unit) : St := S 67 (f50SameFindings_L2_T a_0 b_1 q) (f50SameFindings_L2_B a_0 b_1 q)
theorem f50SameFindings_L2_does (a_0 : (List TF)) (b_1 : (List TF)) {s : Nat} {r : Unit ⊕ Unit} (h : lp (f50SameFindings_L2_step a_0 b_1) s = some r) : Does Tryz.prog G0 0 (.loop (bodyAt Tryz.prog 15 [1, 1, 0, 1, 0, 0])) (f50SameFindings_L2_H a_0 b_1 s) (f50SameFindings_L2_X a_0 b_1 r) (f50SameFindings_L2_E a_0 b_1 r) := by
  refine Does.lp (H := f50SameFindings_L2_H a_0 b_1) (X := f50SameFindings_L2_X a_0 b_1) (E := f50SameFindings_L2_E a_0 b_1) (fun s s2 h => ?_) (fun s r h => ?_) h
  · revert h; revert s; intro k5 h
    unfold f50SameFindings_L2_step at h
    try dsimp only at h
    rcases itS h with ⟨c13, h⟩ | ⟨c13, h⟩
    · obtain ⟨x14, h15, h⟩ := bnS h
      obtain ⟨x16, h17, h⟩ := bnS h
      rcases itS h with ⟨c18, h⟩ | ⟨c18, h⟩
      · rcases itS h with ⟨c19, h⟩ | ⟨c19, h⟩
        · rcases itS h with ⟨c20, h⟩ | ⟨c20, h⟩
          · rcases itS h with ⟨c21, h⟩ | ⟨c21, h⟩
            · obtain ⟨h22, h⟩ := gdS h
              obtain rfl := oL h
              exact Does.of_viewM 0 400 (cs 3 (oa :: (.br true) :: (cs 2 ((.op none (.i k5)) :: oc :: (.op none (.v [.str x14.Key])) :: (cs 2 [.op none (.i k5), oc, .op none (.v [.str x16.Key]), oa, oc, .op (some false) .c, .op (some false) .c, .op (some false) (.i k5), .op (some false) .c, .op (some false) (.v [.int .i64 x14.Day]), .op (some false) .c, .op (some false) .c, .op (some false) (.i k5), .op (some false) .c, .op (some false) (.v [.int .i64 x16.Day]), .op (some false) .a, .op none (.b false), oc, .op (some false) .c, .op (some false) .c, .op (some false) (.i k5), .op (some false) .c, .op (some false) (.v [.int .i64 x14.Have]), .op (some false) .c, .op (some false) .c, .op (some false) (.i k5), .op (some false) .c, .op (some false) (.v [.int .i64 x16.Have]), .op (some false) .a, .op none (.b false), oc, .op (some false) .c, .op (some false) .c, .op (some false) (.i k5), .op (some false) .c, .op (some false) (.v [.int .i64 x14.Want]), .op (some false) .c, .op (some false) .c, .op (some false) (.i k5), .op (some false) .c, .op (some false) (.v [.int .i64 x16.Want]), .op (some false) .a, .op none (.b false), .br false, oc, ow, oc]))))) [] (by kernel_rfl) (by kernel_rfl) (k2 (decide_eq_true c13) (k2 (ir h15) (k2 (fl_ne (f := TF.enc) (z := 3) (fun _ => rfl) h15) (k2 (fl_sub (f := TF.enc) (z := 4) (j := k5) (a := 0) (n := 1) (fun _ => rfl) h15 (by decide) rfl) (k2 (ir h17) (k2 (fl_ne (f := TF.enc) (z := 3) (fun _ => rfl) h17) (k2 (fl_sub (f := TF.enc) (z := 4) (j := k5) (a := 0) (n := 1) (fun _ => rfl) h17 (by decide) rfl) (k2 (not_f (beq_t c18)) (k2 (not_f (beq_t c18)) (k2 (not_f (beq_t c18)) (k2 (ir h15) (k2 (fl_ne (f := TF.enc) (z := 3) (fun _ => rfl) h15) (k2 (not_f (beq_t c18)) (k2 (not_f (beq_t c18)) (k2 (fl_sub (f := TF.enc) (z := 4) (j := k5) (a := 1) (n := 1) (fun _ => rfl) h15 (by decide) rfl) (k2 (not_f (beq_t c18)) (k2 (not_f (beq_t c18)) (k2 (not_f (beq_t c18)) (k2 (ir h17) (k2 (fl_ne (f := TF.enc) (z := 3) (fun _ => rfl) h17) (k2 (not_f (beq_t c18)) (k2 (not_f (beq_t c18)) (k2 (fl_sub (f := TF.enc) (z := 4) (j := k5) (a := 1) (n := 1) (fun _ => rfl) h17 (by decide) rfl) (k2 (not_f (beq_t c18)) (k2 (not_f (beq_t c18)) (k2 (not_f (beq_t c19)) (k2 (not_f (beq_t c19)) (k2 (not_f (beq_t c19)) (k2 (ir h15) (k2 (fl_ne (f := TF.enc) (z := 3) (fun _ => rfl) h15) (k2 (not_f (beq_t c19)) (k2 (not_f (beq_t c19)) (k2 (fl_sub (f := TF.enc) (z := 4) (j := k5) (a := 2) (n := 1) (fun _ => rfl) h15 (by decide) rfl) (k2 (not_f (beq_t c19)) (k2 (not_f (beq_t c19)) (k2 (not_f (beq_t c19)) (k2 (ir h17) (k2 (fl_ne (f := TF.enc) (z := 3) (fun _ => rfl) h17) (k2 (not_f (beq_t c19)) (k2 (not_f (beq_t c19)) (k2 (fl_sub (f := TF.enc) (z := 4) (j := k5) (a := 2) (n := 1) (fun _ => rfl) h17 (by decide) rfl) (k2 (not_f (beq_t c19)) (k2 (not_f (beq_t c19)) (k2 (not_f (beq_t c20)) (k2 (not_f (beq_t c20)) (k2 (not_f (beq_t c20)) (k2 (ir h15) (k2 (fl_ne (f := TF.enc) (z := 3) (fun _ => rfl) h15) (k2 (not_f (beq_t c20)) (k2 (not_f (beq_t c20)) (k2 (fl_sub (f := TF.enc) (z := 4) (j := k5) (a := 3) (n := 1) (fun _ => rfl) h15 (by decide) rfl) (k2 (not_f (beq_t c20)) (k2 (not_f (beq_t c20)) (k2 (not_f (beq_t c20)) (k2 (ir h17) (k2 (fl_ne (f := TF.enc) (z := 3) (fun _ => rfl) h17) (k2 (not_f (beq_t c20)) (k2 (not_f (beq_t c20)) (k2 (fl_sub (f := TF.enc) (z := 4) (j := k5) (a := 3) (n := 1) (fun _ => rfl) h17 (by decide) rfl) (k2 (not_f (beq_t c20)) (k2 (not_f (beq_t c20)) (k2 (not_f (beq_t c21)) (ok1 h22)))))))))))))))))))))))))))))))))))))))))))))))))))))))))))))))
            · simp at h
          · simp at h
        · simp at h
      · simp at h
    · simp at h
  · revert h; revert s; intro k5 h
    unfold f50SameFindings_L2_step at h
    try dsimp only at h
    let f80 : List CH := (cs 3 [oa])
    rcases itS h with ⟨c13, h⟩ | ⟨c13, h⟩
    · obtain ⟨x14, h15, h⟩ := bnS h
      obtain ⟨x16, h17, h⟩ := bnS h
      let f81 : List CH := ((.br true) :: (cs 2 ((.op none (.i k5)) :: oc :: (.op none (.v [.str x14.Key])) :: (cs 2 [.op none (.i k5), oc, .op none (.v [.str x16.Key]), oa, oc]))))
      have g82 := k2 (decide_eq_true c13) (k2 (ir h15) (k2 (fl_ne (f := TF.enc) (z := 3) (fun _ => rfl) h15) (k2 (fl_sub (f := TF.enc) (z := 4) (j := k5) (a := 0) (n := 1) (fun _ => rfl) h15 (by decide) rfl) (k2 (ir h17) (k2 (fl_ne (f := TF.enc) (z := 3) (fun _ => rfl) h17) (ok1 (fl_sub (f := TF.enc) (z := 4) (j := k5) (a := 0) (n := 1) (fun _ => rfl) h17 (by decide) rfl)))))))
      rcases itS h with ⟨c18, h⟩ | ⟨c18, h⟩
      · let f83 : List CH := [.op (some false) .c, .op (some false) .c, .op (some false) (.i k5), .op (some false) .c, .op (some false) (.v [.int .i64 x14.Day]), .op (some false) .c, .op (some false) .c, .op (some false) (.i k5), .op (some false) .c, .op (some false) (.v [.int .i64 x16.Day]), .op (some false) .a, .op none (.b false), oc]
        have g84 := k2 (not_f (beq_t c18)) (k2 (not_f (beq_t c18)) (k2 (not_f (beq_t c18)) (k2 (ir h15) (k2 (fl_ne (f := TF.enc) (z := 3) (fun _ => rfl) h15) (k2 (not_f (beq_t c18)) (k2 (not_f (beq_t c18)) (k2 (fl_sub (f := TF.enc) (z := 4) (j := k5) (a := 1) (n := 1) (fun _ => rfl) h15 (by decide) rfl) (k2 (not_f (beq_t c18)) (k2 (not_f (beq_t c18)) (k2 (not_f (beq_t c18)) (k2 (ir h17) (k2 (fl_ne (f := TF.enc) (z := 3) (fun _ => rfl) h17) (k2 (not_f (beq_t c18)) (k2 (not_f (beq_t c18)) (k2 (fl_sub (f := TF.enc) (z := 4) (j := k5) (a := 1) (n := 1) (fun _ => rfl) h17 (by decide) rfl) (k2 (not_f (beq_t c18)) (ok1 (not_f (beq_t c18)))))))))))))))))))
        rcases itS h with ⟨c19, h⟩ | ⟨c19, h⟩
        · let f85 : List CH := [.op (some false) .c, .op (some false) .c, .op (some false) (.i k5), .op (some false) .c, .op (some false) (.v [.int .i64 x14.Have]), .op (some false) .c, .op (some false) .c, .op (some false) (.i k5), .op (some false) .c, .op (some false) (.v [.int .i64 x16.Have]), .op (some false) .a, .op none (.b false), oc]
          have g86 := k2 (not_f (beq_t c19)) (k2 (not_f (beq_t c19)) (k2 (not_f (beq_t c19)) (k2 (ir h15) (k2 (fl_ne (f := TF.enc) (z := 3) (fun _ => rfl) h15) (k2 (not_f (beq_t c19)) (k2 (not_f (beq_t c19)) (k2 (fl_sub (f := TF.enc) (z := 4) (j := k5) (a := 2) (n := 1) (fun _ => rfl) h15 (by decide) rfl) (k2 (not_f (beq_t c19)) (k2 (not_f (beq_t c19)) (k2 (not_f (beq_t c19)) (k2 (ir h17) (k2 (fl_ne (f := TF.enc) (z := 3) (fun _ => rfl) h17) (k2 (not_f (beq_t c19)) (k2 (not_f (beq_t c19)) (k2 (fl_sub (f := TF.enc) (z := 4) (j := k5) (a := 2) (n := 1) (fun _ => rfl) h17 (by decide) rfl) (k2 (not_f (beq_t c19)) (ok1 (not_f (beq_t c19)))))))))))))))))))
          rcases itS h with ⟨c20, h⟩ | ⟨c20, h⟩
          · rcases itS h with ⟨c21, h⟩ | ⟨c21, h⟩
            · obtain ⟨h22, h⟩ := gdS h
              simp at h
            · obtain rfl := oR h
              exact ⟨Does.of_viewM 0 400 (f80 ++ (f81 ++ (f83 ++ (f85 ++ [.op (some false) .c, .op (some false) .c, .op (some false) (.i k5), .op (some false) .c, .op (some false) (.v [.int .i64 x14.Want]), .op (some false) .c, .op (some false) .c, .op (some false) (.i k5), .op (some false) .c, .op (some false) (.v [.int .i64 x16.Want]), .op (some false) .a, .op none (.b false), .br true, oc])))) [] (by kernel_rfl) (by kernel_rfl) (aO g82 (aO g84 (aO g86 (k2 (not_f (beq_t c20)) (k2 (not_f (beq_t c20)) (k2 (not_f (beq_t c20)) (k2 (ir h15) (k2 (fl_ne (f := TF.enc) (z := 3) (fun _ => rfl) h15) (k2 (not_f (beq_t c20)) (k2 (not_f (beq_t c20)) (k2 (fl_sub (f := TF.enc) (z := 4) (j := k5) (a := 3) (n := 1) (fun _ => rfl) h15 (by decide) rfl) (k2 (not_f (beq_t c20)) (k2 (not_f (beq_t c20)) (k2 (not_f (beq_t c20)) (k2 (ir h17) (k2 (fl_ne (f := TF.enc) (z := 3) (fun _ => rfl) h17) (k2 (not_f (beq_t c20)) (k2 (not_f (beq_t c20)) (k2 (fl_sub (f := TF.enc) (z := 4) (j := k5) (a := 3) (n := 1) (fun _ => rfl) h17 (by decide) rfl) (k2 (not_f (beq_t c20)) (k2 (not_f (beq_t c20)) (ok1 (not_t (beq_f c21)))))))))))))))))))))))), by intro q; cases q⟩
          · obtain rfl := oR h
            exact ⟨Does.of_viewM 0 400 (f80 ++ (f81 ++ (f83 ++ (f85 ++ [tc, tc, tc, tc, tc, tc, tc, tc, tc, tc, tc, .op none (.b true), .br true, oc])))) [] (by kernel_rfl) (by kernel_rfl) (aO g82 (aO g84 (aO g86 (k2 (not_t (beq_f c20)) (k2 (not_t (beq_f c20)) (k2 (not_t (beq_f c20)) (k2 (not_t (beq_f c20)) (k2 (not_t (beq_f c20)) (k2 (not_t (beq_f c20)) (k2 (not_t (beq_f c20)) (k2 (not_t (beq_f c20)) (k2 (not_t (beq_f c20)) (k2 (not_t (beq_f c20)) (k2 (not_t (beq_f c20)) (k2 (not_t (beq_f c20)) (ok1 (rfl : true = true))))))))))))))))), by intro q; cases q⟩
        · obtain rfl := oR h
          exact ⟨Does.of_viewM 0 400 (f80 ++ (f81 ++ (f83 ++ (tc :: tc :: tc :: tc :: tc :: tc :: tc :: tc :: tc :: tc :: tc :: (.op none (.b true)) :: (cs 13 [.br true, oc]))))) [] (by kernel_rfl) (by kernel_rfl) (aO g82 (aO g84 (k2 (not_t (beq_f c19)) (k2 (not_t (beq_f c19)) (k2 (not_t (beq_f c19)) (k2 (not_t (beq_f c19)) (k2 (not_t (beq_f c19)) (k2 (not_t (beq_f c19)) (k2 (not_t (beq_f c19)) (k2 (not_t (beq_f c19)) (k2 (not_t (beq_f c19)) (k2 (not_t (beq_f c19)) (k2 (not_t (beq_f c19)) (k2 (not_t (beq_f c19)) (ok1 (rfl : true = true)))))))))))))))), by intro q; cases q⟩
      · obtain rfl := oR h
        exact ⟨Does.of_viewM 0 400 (f80 ++ (f81 ++ (tc :: tc :: tc :: tc :: tc :: tc :: tc :: tc :: tc :: tc :: tc :: (.op none (.b true)) :: (cs 26 [.br true, oc])))) [] (by kernel_rfl) (by kernel_rfl) (aO g82 (k2 (not_t (beq_f c18)) (k2 (not_t (beq_f c18)) (k2 (not_t (beq_f c18)) (k2 (not_t (beq_f c18)) (k2 (not_t (beq_f c18)) (k2 (not_t (beq_f c18)) (k2 (not_t (beq_f c18)) (k2 (not_t (beq_f c18)) (k2 (not_t (beq_f c18)) (k2 (not_t (beq_f c18)) (k2 (not_t (beq_f c18)) (k2 (not_t (beq_f c18)) (ok1 (rfl : true = true))))))))))))))), by intro q; cases q⟩
    · obtain rfl := oR h
      exact ⟨Does.of_viewM 0 400 (f80 ++ [.br false]) [] (by kernel_rfl) (by kernel_rfl) (ok1 (decide_eq_false c13)), by intro q; cases q⟩
noncomputable def f50SameFindings (a_0 : (List TF)) (b_1 : (List TF)) : Option Bool :=
  if (↑a_0.length : Int) = (↑b_1.length : Int) then
    (lp (f50SameFindings_L2_step a_0 b_1) (0 : Nat)).bind fun qq => match qq with
    | Sum.inl o2 =>
      some false
    | Sum.inr (o2) =>
      some true
  else
    some false
theorem f50SameFindings_ret (a_0 : (List TF)) (b_1 : (List TF)) (r : Bool) (h : f50SameFindings a_0 b_1 = some r) : Ret Tryz.prog G0 15 [.lst (fl TF.enc a_0) a_0.length, .lst (fl TF.enc b_1) b_1.length] (.bool r) [] := by
  unfold f50SameFindings at h
  let f87 : List CH := (cs 5 [oa])
  rcases itS h with ⟨c1, h⟩ | ⟨c1, h⟩
  · obtain ⟨qq, hl2, h⟩ := bnS h
    rcases qq with o2 | o2
    · dsimp only at h
      obtain rfl := oI h
      exact Ret.of_view 400 (f87 ++ [.br false, oc, .fcut 0 .ret [(4, .bool false)] [] [] [(0, .any), (1, .any), (5, .int .i64 (↑(0 : Nat) : Int))] []]) [] (by kernel_rfl) (by kernel_rfl) (k2 (not_f (beq_t c1)) (k2 (rfl : (.int .i64 0 : AV) = .int .i64 (↑(0 : Nat) : Int)) (ok1 (f50SameFindings_L2_does a_0 b_1 (s := (0 : Nat)) (r := Sum.inl o2) hl2))))
    · dsimp only at h
      obtain rfl := oI h
      exact Ret.of_view 400 (f87 ++ [.br false, oc, .fcut 0 (.exit 0) [] [] [] [(0, .any), (1, .any), (5, .int .i64 (↑(0 : Nat) : Int))] [], oc]) [] (by kernel_rfl) (by kernel_rfl) (k2 (not_f (beq_t c1)) (k2 (rfl : (.int .i64 0 : AV) = .int .i64 (↑(0 : Nat) : Int)) (ok1 (f50SameFindings_L2_does a_0 b_1 (s := (0 : Nat)) (r := Sum.inr (o2)) hl2))))
  · obtain rfl := oI h
    exact Ret.of_view 400 (f87 ++ [.br true, oc]) [] (by kernel_rfl) (by kernel_rfl) (ok1 (not_t (beq_f c1)))
noncomputable def w5few_L32_step (l_0 : (List TC)) (k3 : Nat) : Nat → Option (Nat ⊕ (Unit ⊕ Unit)) := fun k4 =>
  (l_0[k3]?).bind fun x40 =>
  if (↑k4 : Int) < (↑x40.Lines.length : Int) then
    (x40.Lines[k4]?).bind fun x43 =>
    if (↑x43.Text.length : Int) > (80 : Int) then
      some (Sum.inr (Sum.inl ()))
    else
      if InR .i64 ((↑k4 : Int) + 1) then
        some (Sum.inl (k4 + 1))
      else none
  else
    some (Sum.inr (Sum.inr (())))
def w5few_L32_H (l_0 : (List TC)) (k3 : Nat) : Nat → St := fun (s : Nat) => S 69 [(0, .lst (fl TC.enc l_0) l_0.length), (3, .int .i64 (↑k3 : Int)), (4, .int .i64 (↑s : Int))] []
def w5few_L32_X (l_0 : (List TC)) (k3 : Nat) : (Unit ⊕ Unit) → AEx := fun q => match q with | Sum.inl o => .ret | Sum.inr (o) => (.exit 2)
def w5few_L32_T (l_0 : (List TC)) (k3 : Nat) : (Unit ⊕ Unit) → List (Nat × AV) := fun q => match q with | Sum.inl o => [(2, .bool false)] | Sum.inr (o) => [(0, .lst (fl TC.enc l_0) l_0.length), (3, .int .i64 (↑k3 : Int))]
def w5few_L32_B (l_0 : (List TC)) (k3 : Nat) : (Unit ⊕ Unit) → List Blk := fun q => match q with | Sum.inl o => [] | Sum.inr (o) => []
def w5few_L32_E (l_0 : (List TC)) (k3 : Nat) (q : Unit ⊕ Unit) : St := S 69 (w5few_L32_T l_0 k3 q) (w5few_L32_B l_0 k3 q)
theorem w5few_L32_does (l_0 : (List TC)) (k3 : Nat) {s : Nat} {r : Unit ⊕ Unit} (h : lp (w5few_L32_step l_0 k3) s = some r) : Does Tryz.prog G0 0 (.loop (bodyAt Tryz.prog 10 [1, 0, 1, 0, 0, 1, 0, 0, 1, 1, 0, 0])) (w5few_L32_H l_0 k3 s) (w5few_L32_X l_0 k3 r) (w5few_L32_E l_0 k3 r) := by
  refine Does.lp (H := w5few_L32_H l_0 k3) (X := w5few_L32_X l_0 k3) (E := w5few_L32_E l_0 k3) (fun s s2 h => ?_) (fun s r h => ?_) h
  · revert h; revert s; intro k4 h
    unfold w5few_L32_step at h
    try dsimp only at h
    obtain ⟨x40, h41, h⟩ := bnS h
    rcases itS h with ⟨c42, h⟩ | ⟨c42, h⟩
    · obtain ⟨x43, h44, h⟩ := bnS h
      rcases itS h with ⟨c45, h⟩ | ⟨c45, h⟩
      · simp at h
      · obtain ⟨h46, h⟩ := gdS h
        obtain rfl := oL h
        exact Does.of_viewM 0 400 (cs 3 ((.op none (.i k3)) :: oc :: (.op none (.v [.lst (fl TL.enc x40.Lines) x40.Lines.length])) :: oc :: oa :: (.br true) :: (cs 2 [.op none (.i k3), oc, .op none (.v [.lst (fl TL.enc x40.Lines) x40.Lines.length]), oc, .op none (.i k4), oc, .op none (.v [.str x43.Text]), oc, oa, .br false, oc, ow, oc]))) [] (by kernel_rfl) (by kernel_rfl) (k2 (ir h41) (k2 (fl_ne (f := TC.enc) (z := 6) (fun _ => rfl) h41) (k2 (fl_sub (f := TC.enc) (z := 7) (j := k3) (a := 5) (n := 1) (fun _ => rfl) h41 (by decide) rfl) (k2 (decide_eq_true c42) (k2 (ir h41) (k2 (fl_ne (f := TC.enc) (z := 6) (fun _ => rfl) h41) (k2 (fl_sub (f := TC.enc) (z := 7) (j := k3) (a := 5) (n := 1) (fun _ => rfl) h41 (by decide) rfl) (k2 (ir h44) (k2 (fl_ne (f := TL.enc) (z := 1) (fun _ => rfl) h44) (k2 (fl_sub (f := TL.enc) (z := 2) (j := k4) (a := 0) (n := 1) (fun _ => rfl) h44 (by decide) rfl) (k2 (decide_eq_false c45) (ok1 h46))))))))))))
    · simp at h
  · revert h; revert s; intro k4 h
    unfold w5few_L32_step at h
    try dsimp only at h
    obtain ⟨x40, h41, h⟩ := bnS h
    let f101 : List CH := (cs 3 [.op none (.i k3), oc, .op none (.v [.lst (fl TL.enc x40.Lines) x40.Lines.length]), oc, oa])
    have g102 := k2 (ir h41) (k2 (fl_ne (f := TC.enc) (z := 6) (fun _ => rfl) h41) (ok1 (fl_sub (f := TC.enc) (z := 7) (j := k3) (a := 5) (n := 1) (fun _ => rfl) h41 (by decide) rfl)))
    rcases itS h with ⟨c42, h⟩ | ⟨c42, h⟩
    · obtain ⟨x43, h44, h⟩ := bnS h
      rcases itS h with ⟨c45, h⟩ | ⟨c45, h⟩
      · obtain rfl := oR h
        exact ⟨Does.of_viewM 0 400 (f101 ++ ((.br true) :: (cs 2 [.op none (.i k3), oc, .op none (.v [.lst (fl TL.enc x40.Lines) x40.Lines.length]), oc, .op none (.i k4), oc, .op none (.v [.str x43.Text]), oc, oa, .br true, oc]))) [] (by kernel_rfl) (by kernel_rfl) (aO g102 (k2 (decide_eq_true c42) (k2 (ir h41) (k2 (fl_ne (f := TC.enc) (z := 6) (fun _ => rfl) h41) (k2 (fl_sub (f := TC.enc) (z := 7) (j := k3) (a := 5) (n := 1) (fun _ => rfl) h41 (by decide) rfl) (k2 (ir h44) (k2 (fl_ne (f := TL.enc) (z := 1) (fun _ => rfl) h44) (k2 (fl_sub (f := TL.enc) (z := 2) (j := k4) (a := 0) (n := 1) (fun _ => rfl) h44 (by decide) rfl) (ok1 (decide_eq_true c45)))))))))), by intro q; cases q⟩
      · obtain ⟨h46, h⟩ := gdS h
        simp at h
    · obtain rfl := oR h
      exact ⟨Does.of_viewM 0 400 (f101 ++ [.br false]) [] (by kernel_rfl) (by kernel_rfl) (aO g102 (ok1 (decide_eq_false c42))), by intro q; cases q⟩
noncomputable def w5few_L1_step (l_0 : (List TC)) : Nat → Option (Nat ⊕ (Unit ⊕ Unit)) := fun k3 =>
  if (↑k3 : Int) < (↑l_0.length : Int) then
    (l_0[k3]?).bind fun x26 =>
    if (↑x26.Key.length : Int) > (80 : Int) then
      some (Sum.inr (Sum.inl ()))
    else
      if (↑x26.Vehicle.length : Int) > (80 : Int) then
        some (Sum.inr (Sum.inl ()))
      else
        if (↑x26.System.length : Int) > (80 : Int) then
          some (Sum.inr (Sum.inl ()))
        else
          if (↑x26.Lines.length : Int) > (8 : Int) then
            some (Sum.inr (Sum.inl ()))
          else
            (lp (w5few_L32_step l_0 k3) (0 : Nat)).bind fun qq => match qq with
            | Sum.inl o32 =>
              some (Sum.inr (Sum.inl ()))
            | Sum.inr (o32) =>
              if InR .i64 ((↑k3 : Int) + 1) then
                some (Sum.inl (k3 + 1))
              else none
  else
    some (Sum.inr (Sum.inr (())))
def w5few_L1_H (l_0 : (List TC)) : Nat → St := fun (s : Nat) => S 69 [(0, .lst (fl TC.enc l_0) l_0.length), (3, .int .i64 (↑s : Int))] []
def w5few_L1_X (l_0 : (List TC)) : (Unit ⊕ Unit) → AEx := fun q => match q with | Sum.inl o => .ret | Sum.inr (o) => (.exit 0)
def w5few_L1_T (l_0 : (List TC)) : (Unit ⊕ Unit) → List (Nat × AV) := fun q => match q with | Sum.inl o => [(2, .bool false)] | Sum.inr (o) => [(0, .lst (fl TC.enc l_0) l_0.length)]
def w5few_L1_B (l_0 : (List TC)) : (Unit ⊕ Unit) → List Blk := fun q => match q with | Sum.inl o => [] | Sum.inr (o) => []
def w5few_L1_E (l_0 : (List TC)) (q : Unit ⊕ Unit) : St := S 69 (w5few_L1_T l_0 q) (w5few_L1_B l_0 q)
theorem w5few_L1_does (l_0 : (List TC)) {s : Nat} {r : Unit ⊕ Unit} (h : lp (w5few_L1_step l_0) s = some r) : Does Tryz.prog G0 0 (.loop (bodyAt Tryz.prog 10 [1, 0, 1, 0, 0])) (w5few_L1_H l_0 s) (w5few_L1_X l_0 r) (w5few_L1_E l_0 r) := by
  refine Does.lp (H := w5few_L1_H l_0) (X := w5few_L1_X l_0) (E := w5few_L1_E l_0) (fun s s2 h => ?_) (fun s r h => ?_) h
  · revert h; revert s; intro k3 h
    unfold w5few_L1_step at h
    try dsimp only at h
    rcases itS h with ⟨c25, h⟩ | ⟨c25, h⟩
    · obtain ⟨x26, h27, h⟩ := bnS h
      rcases itS h with ⟨c28, h⟩ | ⟨c28, h⟩
      · simp at h
      · rcases itS h with ⟨c29, h⟩ | ⟨c29, h⟩
        · simp at h
        · rcases itS h with ⟨c30, h⟩ | ⟨c30, h⟩
          · simp at h
          · rcases itS h with ⟨c31, h⟩ | ⟨c31, h⟩
            · simp at h
            · obtain ⟨qq, hl32, h⟩ := bnS h
              rcases qq with o32 | o32
              · dsimp only at h
                simp at h
              · dsimp only at h
                obtain ⟨h47, h⟩ := gdS h
                obtain rfl := oL h
                exact Does.of_viewM 0 400 (cs 3 (oa :: (.br true) :: (cs 2 ((.op none (.i k3)) :: oc :: (.op none (.v [.str x26.Key])) :: oc :: oa :: oc :: (.op (some false) .c) :: oc :: (.op none (.i k3)) :: oc :: (.op none (.v [.str x26.Vehicle])) :: oc :: oa :: (cs 2 ((.op (some false) .c) :: oc :: (.op none (.i k3)) :: oc :: (.op none (.v [.str x26.System])) :: oc :: oa :: (cs 2 [.op (some false) .c, oc, .op none (.i k3), oc, .op none (.v [.lst (fl TL.enc x26.Lines) x26.Lines.length]), oc, oa, oc, .br false, oc, .fcut 0 (.exit 2) (w5few_L32_T l_0 k3 (Sum.inr (o32))) [] [] [(0, .any), (3, .any), (4, .int .i64 (↑(0 : Nat) : Int))] [], oc, ow, oc]))))))) [] (by kernel_rfl) (by kernel_rfl) (k2 (decide_eq_true c25) (k2 (ir h27) (k2 (fl_ne (f := TC.enc) (z := 6) (fun _ => rfl) h27) (k2 (fl_sub (f := TC.enc) (z := 7) (j := k3) (a := 0) (n := 1) (fun _ => rfl) h27 (by decide) rfl) (k2 (decide_eq_false c28) (k2 (ir h27) (k2 (fl_ne (f := TC.enc) (z := 6) (fun _ => rfl) h27) (k2 (fl_sub (f := TC.enc) (z := 7) (j := k3) (a := 1) (n := 1) (fun _ => rfl) h27 (by decide) rfl) (k2 (decide_eq_false c29) (k2 (ir h27) (k2 (fl_ne (f := TC.enc) (z := 6) (fun _ => rfl) h27) (k2 (fl_sub (f := TC.enc) (z := 7) (j := k3) (a := 2) (n := 1) (fun _ => rfl) h27 (by decide) rfl) (k2 (decide_eq_false c30) (k2 (ir h27) (k2 (fl_ne (f := TC.enc) (z := 6) (fun _ => rfl) h27) (k2 (fl_sub (f := TC.enc) (z := 7) (j := k3) (a := 5) (n := 1) (fun _ => rfl) h27 (by decide) rfl) (k2 (decide_eq_false c31) (k2 (rfl : (.int .i64 0 : AV) = .int .i64 (↑(0 : Nat) : Int)) (k2 (w5few_L32_does l_0 k3 (s := (0 : Nat)) (r := Sum.inr (o32)) hl32) (ok1 h47))))))))))))))))))))
    · simp at h
  · revert h; revert s; intro k3 h
    unfold w5few_L1_step at h
    try dsimp only at h
    let f103 : List CH := (cs 3 [oa])
    rcases itS h with ⟨c25, h⟩ | ⟨c25, h⟩
    · obtain ⟨x26, h27, h⟩ := bnS h
      let f104 : List CH := ((.br true) :: (cs 2 [.op none (.i k3), oc, .op none (.v [.str x26.Key]), oc, oa, oc]))
      have g105 := k2 (decide_eq_true c25) (k2 (ir h27) (k2 (fl_ne (f := TC.enc) (z := 6) (fun _ => rfl) h27) (ok1 (fl_sub (f := TC.enc) (z := 7) (j := k3) (a := 0) (n := 1) (fun _ => rfl) h27 (by decide) rfl))))
      rcases itS h with ⟨c28, h⟩ | ⟨c28, h⟩
      · obtain rfl := oR h
        exact ⟨Does.of_viewM 0 400 (f103 ++ (f104 ++ (tc :: (cs 25 [.br true, oc])))) [] (by kernel_rfl) (by kernel_rfl) (aO g105 (k2 (decide_eq_true c28) (ok1 (rfl : true = true)))), by intro q; cases q⟩
      · let f106 : List CH := ((.op (some false) .c) :: oc :: (.op none (.i k3)) :: oc :: (.op none (.v [.str x26.Vehicle])) :: oc :: oa :: (cs 2 []))
        have g107 := k2 (decide_eq_false c28) (k2 (ir h27) (k2 (fl_ne (f := TC.enc) (z := 6) (fun _ => rfl) h27) (ok1 (fl_sub (f := TC.enc) (z := 7) (j := k3) (a := 1) (n := 1) (fun _ => rfl) h27 (by decide) rfl))))
        rcases itS h with ⟨c29, h⟩ | ⟨c29, h⟩
        · obtain rfl := oR h
          exact ⟨Does.of_viewM 0 400 (f103 ++ (f104 ++ (f106 ++ (tc :: (cs 16 [.br true, oc]))))) [] (by kernel_rfl) (by kernel_rfl) (aO g105 (aO g107 (k2 (decide_eq_true c29) (ok1 (rfl : true = true))))), by intro q; cases q⟩
        · let f108 : List CH := ((.op (some false) .c) :: oc :: (.op none (.i k3)) :: oc :: (.op none (.v [.str x26.System])) :: oc :: oa :: (cs 2 []))
          have g109 := k2 (decide_eq_false c29) (k2 (ir h27) (k2 (fl_ne (f := TC.enc) (z := 6) (fun _ => rfl) h27) (ok1 (fl_sub (f := TC.enc) (z := 7) (j := k3) (a := 2) (n := 1) (fun _ => rfl) h27 (by decide) rfl))))
          rcases itS h with ⟨c30, h⟩ | ⟨c30, h⟩
          · obtain rfl := oR h
            exact ⟨Does.of_viewM 0 400 (f103 ++ (f104 ++ (f106 ++ (f108 ++ (tc :: (cs 7 [.br true, oc])))))) [] (by kernel_rfl) (by kernel_rfl) (aO g105 (aO g107 (aO g109 (k2 (decide_eq_true c30) (ok1 (rfl : true = true)))))), by intro q; cases q⟩
          · let f110 : List CH := [.op (some false) .c, oc, .op none (.i k3), oc, .op none (.v [.lst (fl TL.enc x26.Lines) x26.Lines.length]), oc, oa, oc]
            have g111 := k2 (decide_eq_false c30) (k2 (ir h27) (k2 (fl_ne (f := TC.enc) (z := 6) (fun _ => rfl) h27) (ok1 (fl_sub (f := TC.enc) (z := 7) (j := k3) (a := 5) (n := 1) (fun _ => rfl) h27 (by decide) rfl))))
            rcases itS h with ⟨c31, h⟩ | ⟨c31, h⟩
            · obtain rfl := oR h
              exact ⟨Does.of_viewM 0 400 (f103 ++ (f104 ++ (f106 ++ (f108 ++ (f110 ++ [.br true, oc]))))) [] (by kernel_rfl) (by kernel_rfl) (aO g105 (aO g107 (aO g109 (aO g111 (ok1 (decide_eq_true c31)))))), by intro q; cases q⟩
            · obtain ⟨qq, hl32, h⟩ := bnS h
              rcases qq with o32 | o32
              · dsimp only at h
                obtain rfl := oR h
                exact ⟨Does.of_viewM 0 400 (f103 ++ (f104 ++ (f106 ++ (f108 ++ (f110 ++ [.br false, oc, .fcut 0 .ret [(2, .bool false)] [] [] [(0, .any), (3, .any), (4, .int .i64 (↑(0 : Nat) : Int))] []]))))) [] (by kernel_rfl) (by kernel_rfl) (aO g105 (aO g107 (aO g109 (aO g111 (k2 (decide_eq_false c31) (k2 (rfl : (.int .i64 0 : AV) = .int .i64 (↑(0 : Nat) : Int)) (ok1 (w5few_L32_does l_0 k3 (s := (0 : Nat)) (r := Sum.inl o32) hl32)))))))), by intro q; cases q⟩
              · dsimp only at h
                obtain ⟨h47, h⟩ := gdS h
                simp at h
    · obtain rfl := oR h
      exact ⟨Does.of_viewM 0 400 (f103 ++ [.br false]) [] (by kernel_rfl) (by kernel_rfl) (ok1 (decide_eq_false c25)), by intro q; cases q⟩
noncomputable def w5few (l_0 : (List TC)) : Option Bool :=
  (lp (w5few_L1_step l_0) (0 : Nat)).bind fun qq => match qq with
  | Sum.inl o1 =>
    some false
  | Sum.inr (o1) =>
    some (decide ((↑l_0.length : Int) ≤ (20 : Int)))
theorem w5few_ret (l_0 : (List TC)) (r : Bool) (h : w5few l_0 = some r) : Ret Tryz.prog G0 10 [.lst (fl TC.enc l_0) l_0.length] (.bool r) [] := by
  unfold w5few at h
  obtain ⟨qq, hl1, h⟩ := bnS h
  rcases qq with o1 | o1
  · dsimp only at h
    obtain rfl := oI h
    exact Ret.of_view 400 (cs 2 [.fcut 0 .ret [(2, .bool false)] [] [] [(0, .any), (3, .int .i64 (↑(0 : Nat) : Int))] []]) [] (by kernel_rfl) (by kernel_rfl) (k2 (rfl : (.int .i64 0 : AV) = .int .i64 (↑(0 : Nat) : Int)) (ok1 (w5few_L1_does l_0 (s := (0 : Nat)) (r := Sum.inl o1) hl1)))
  · dsimp only at h
    obtain rfl := oI h
    exact Ret.of_view 400 (cs 2 ((.fcut 0 (.exit 0) (w5few_L1_T l_0 (Sum.inr (o1))) [] [] [(0, .any), (3, .int .i64 (↑(0 : Nat) : Int))] []) :: (cs 2 [oa, oc]))) [] (by kernel_rfl) (by kernel_rfl) (k2 (rfl : (.int .i64 0 : AV) = .int .i64 (↑(0 : Nat) : Int)) (ok1 (w5few_L1_does l_0 (s := (0 : Nat)) (r := Sum.inr (o1)) hl1)))
end Go.Proofs.YtpadimnchmghpaaGreatDoor.Av
