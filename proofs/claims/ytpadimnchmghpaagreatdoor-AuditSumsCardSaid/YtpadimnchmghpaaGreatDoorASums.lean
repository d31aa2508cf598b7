import Derived.Test.YtpadimnchmghpaaGreatDoorAvZ
import Derived.Test.YtpadimnchmghpaaGreatDoorProg
import Derived.Tactics
import Derived.Test.YtpadimnchmghpaaGreatDoorR3
open Prod (fst)
open Int (tdiv tmod)
set_option linter.unusedVariables false
set_option linter.unusedSimpArgs false
set_option maxHeartbeats 4000000
set_option maxRecDepth 100000
namespace Go.Proofs.YtpadimnchmghpaaGreatDoor.Av
open Go Go.Proofs
noncomputable def w5AuditSums_L9_step (have_0 : (List TC)) (want_1 : (List TC)) (day_2 : Int) (r7 : (List TF)) : (Bool × Nat) → Option ((Bool × Nat) ⊕ (Unit ⊕ Bool))
  | (v8, k9) =>
    if (↑k9 : Int) < (↑r7.length : Int) then
      (r7[k9]?).bind fun x23 =>
      (w5of have_0 x23.Day).bind fun r25 =>
      if x23.Have = r25 then
        (w5of want_1 x23.Day).bind fun r28 =>
        if x23.Want = r28 then
          if v8 = true then
            if InR .i64 ((↑k9 : Int) + 1) then
              some (Sum.inl (true, (k9 + 1)))
            else none
          else
            if InR .i64 ((↑k9 : Int) + 1) then
              some (Sum.inl ((x23.Day == day_2), (k9 + 1)))
            else none
        else
          some (Sum.inr (Sum.inl ()))
      else
        some (Sum.inr (Sum.inl ()))
    else
      some (Sum.inr (Sum.inr (v8)))
def w5AuditSums_L9_H (have_0 : (List TC)) (want_1 : (List TC)) (day_2 : Int) (r7 : (List TF)) : (Bool × Nat) → St := fun (s : (Bool × Nat)) => S 78 [(0, .lst (fl TC.enc have_0) have_0.length), (1, .lst (fl TC.enc want_1) want_1.length), (2, .int .i64 day_2), (7, .vec 0 r7.length 4), (8, .bool s.1), (9, .int .i64 (↑s.2 : Int))] [(bV (fl TF.enc r7) 39)]
def w5AuditSums_L9_X (have_0 : (List TC)) (want_1 : (List TC)) (day_2 : Int) (r7 : (List TF)) : (Unit ⊕ Bool) → AEx := fun q => match q with | Sum.inl o => .ret | Sum.inr (o) => (.exit 0)
def w5AuditSums_L9_T (have_0 : (List TC)) (want_1 : (List TC)) (day_2 : Int) (r7 : (List TF)) : (Unit ⊕ Bool) → List (Nat × AV) := fun q => match q with | Sum.inl o => [(6, .bool false)] | Sum.inr (o) => [(0, .lst (fl TC.enc have_0) have_0.length), (1, .lst (fl TC.enc want_1) want_1.length), (2, .int .i64 day_2), (8, .bool o)]
def w5AuditSums_L9_B (have_0 : (List TC)) (want_1 : (List TC)) (day_2 : Int) (r7 : (List TF)) : (Unit ⊕ Bool) → List Blk := fun q => match q with | Sum.inl o => [(bV (fl TF.enc r7) 39)] | Sum.inr (o) => [(bV (fl TF.enc r7) 39)]
def w5AuditSums_L9_E (have_0 : (List TC)) (want_1 : (List TC)) (day_2 : Int) (r7 : (List TF)) (q : Unit ⊕ Bool) : St := S 78 (w5AuditSums_L9_T have_0 want_1 day_2 r7 q) (w5AuditSums_L9_B have_0 want_1 day_2 r7 q)
theorem w5AuditSums_L9_does (have_0 : (List TC)) (want_1 : (List TC)) (day_2 : Int) (r7 : (List TF)) {s : (Bool × Nat)} {r : Unit ⊕ Bool} (h : lp (w5AuditSums_L9_step have_0 want_1 day_2 r7) s = some r) : Does Tryz.prog G0 1 (.loop (bodyAt Tryz.prog 9 [1, 1, 1, 1, 0, 1, 0, 0])) (w5AuditSums_L9_H have_0 want_1 day_2 r7 s) (w5AuditSums_L9_X have_0 want_1 day_2 r7 r) (w5AuditSums_L9_E have_0 want_1 day_2 r7 r) := by
  refine Does.lp (H := w5AuditSums_L9_H have_0 want_1 day_2 r7) (X := w5AuditSums_L9_X have_0 want_1 day_2 r7) (E := w5AuditSums_L9_E have_0 want_1 day_2 r7) (fun s s2 h => ?_) (fun s r h => ?_) h
  · obtain ⟨v8, k9⟩ := s
    unfold w5AuditSums_L9_step at h
    try dsimp only at h
    rcases itS h with ⟨c22, h⟩ | ⟨c22, h⟩
    · obtain ⟨x23, h24, h⟩ := bnS h
      obtain ⟨r25, h26, h⟩ := bnS h
      rcases itS h with ⟨c27, h⟩ | ⟨c27, h⟩
      · obtain ⟨r28, h29, h⟩ := bnS h
        rcases itS h with ⟨c30, h⟩ | ⟨c30, h⟩
        · let f475 : List CH := (cs 3 (oa :: (.br true) :: (cs 2 ((.op none (.i k9)) :: oc :: (.op none (.v [.int .i64 x23.Have])) :: (cs 3 ((.op none (.i k9)) :: oc :: (.op none (.v [.int .i64 x23.Day])) :: (.ret none [.any, .any] (.int .i64 r25) []) :: oa :: oc :: (.op (some false) .c) :: (.op (some false) .c) :: (.op (some false) (.i k9)) :: (.op (some false) .c) :: (.op (some false) (.v [.int .i64 x23.Want])) :: (.op (some false) .c) :: (.op (some false) .c) :: (.op (some false) .c) :: (.op (some false) (.i k9)) :: (.op (some false) .c) :: (.op (some false) (.v [.int .i64 x23.Day])) :: (.ret (some false) [.any, .any] (.int .i64 r28) []) :: (.op (some false) .a) :: (.op none (.b false)) :: (.br false) :: (cs 2 [])))))))
          have g476 := k2 (decide_eq_true c22) (k2 (ir h24) (k2 (fl_sub (f := TF.enc) (z := 4) (j := k9) (a := 2) (n := 1) (fun _ => rfl) h24 (by decide) rfl) (k2 (ir h24) (k2 (fl_sub (f := TF.enc) (z := 4) (j := k9) (a := 1) (n := 1) (fun _ => rfl) h24 (by decide) rfl) (k2 (w5of_ret have_0 x23.Day r25 h26) (k2 (not_f (beq_t c27)) (k2 (not_f (beq_t c27)) (k2 (not_f (beq_t c27)) (k2 (ir h24) (k2 (not_f (beq_t c27)) (k2 (not_f (beq_t c27)) (k2 (fl_sub (f := TF.enc) (z := 4) (j := k9) (a := 3) (n := 1) (fun _ => rfl) h24 (by decide) rfl) (k2 (not_f (beq_t c27)) (k2 (not_f (beq_t c27)) (k2 (not_f (beq_t c27)) (k2 (not_f (beq_t c27)) (k2 (ir h24) (k2 (not_f (beq_t c27)) (k2 (not_f (beq_t c27)) (k2 (fl_sub (f := TF.enc) (z := 4) (j := k9) (a := 1) (n := 1) (fun _ => rfl) h24 (by decide) rfl) (k2 (not_f (beq_t c27)) (k2 (w5of_ret want_1 x23.Day r28 h29) (k2 (not_f (beq_t c27)) (k2 (not_f (beq_t c27)) (ok1 (not_f (beq_t c30)))))))))))))))))))))))))))
          rcases itS h with ⟨c31, h⟩ | ⟨c31, h⟩
          · obtain ⟨h32, h⟩ := gdS h
            obtain rfl := oL h
            exact Does.of_viewM 1 400 (f475 ++ (tc :: (cs 9 [ow, oc]))) [0] (by kernel_rfl) (by kernel_rfl) (aO g476 (k2 c31 (ok1 h32)))
          · obtain ⟨h33, h⟩ := gdS h
            obtain rfl := oL h
            exact Does.of_viewM 1 400 (f475 ++ ((.op (some false) .c) :: oc :: (.op none (.i k9)) :: oc :: (.op none (.v [.int .i64 x23.Day])) :: oc :: oa :: (cs 3 [ow, oc]))) [0] (by kernel_rfl) (by kernel_rfl) (aO g476 (k2 ((eq_false_of_ne_true c31) : v8 = false) (k2 (ir h24) (k2 (fl_sub (f := TF.enc) (z := 4) (j := k9) (a := 1) (n := 1) (fun _ => rfl) h24 (by decide) rfl) (ok1 h33)))))
        · simp at h
      · simp at h
    · simp at h
  · obtain ⟨v8, k9⟩ := s
    unfold w5AuditSums_L9_step at h
    try dsimp only at h
    let f477 : List CH := (cs 3 [oa])
    rcases itS h with ⟨c22, h⟩ | ⟨c22, h⟩
    · obtain ⟨x23, h24, h⟩ := bnS h
      obtain ⟨r25, h26, h⟩ := bnS h
      let f478 : List CH := ((.br true) :: (cs 2 ((.op none (.i k9)) :: oc :: (.op none (.v [.int .i64 x23.Have])) :: (cs 3 [.op none (.i k9), oc, .op none (.v [.int .i64 x23.Day]), .ret none [.any, .any] (.int .i64 r25) [], oa, oc]))))
      have g479 := k2 (decide_eq_true c22) (k2 (ir h24) (k2 (fl_sub (f := TF.enc) (z := 4) (j := k9) (a := 2) (n := 1) (fun _ => rfl) h24 (by decide) rfl) (k2 (ir h24) (k2 (fl_sub (f := TF.enc) (z := 4) (j := k9) (a := 1) (n := 1) (fun _ => rfl) h24 (by decide) rfl) (ok1 (w5of_ret have_0 x23.Day r25 h26))))))
      rcases itS h with ⟨c27, h⟩ | ⟨c27, h⟩
      · obtain ⟨r28, h29, h⟩ := bnS h
        rcases itS h with ⟨c30, h⟩ | ⟨c30, h⟩
        · rcases itS h with ⟨c31, h⟩ | ⟨c31, h⟩
          · obtain ⟨h32, h⟩ := gdS h
            simp at h
          · obtain ⟨h33, h⟩ := gdS h
            simp at h
        · obtain rfl := oR h
          exact ⟨Does.of_viewM 1 400 (f477 ++ (f478 ++ [.op (some false) .c, .op (some false) .c, .op (some false) (.i k9), .op (some false) .c, .op (some false) (.v [.int .i64 x23.Want]), .op (some false) .c, .op (some false) .c, .op (some false) .c, .op (some false) (.i k9), .op (some false) .c, .op (some false) (.v [.int .i64 x23.Day]), .ret (some false) [.any, .any] (.int .i64 r28) [], .op (some false) .a, .op none (.b false), .br true, oc])) [0] (by kernel_rfl) (by kernel_rfl) (aO g479 (k2 (not_f (beq_t c27)) (k2 (not_f (beq_t c27)) (k2 (not_f (beq_t c27)) (k2 (ir h24) (k2 (not_f (beq_t c27)) (k2 (not_f (beq_t c27)) (k2 (fl_sub (f := TF.enc) (z := 4) (j := k9) (a := 3) (n := 1) (fun _ => rfl) h24 (by decide) rfl) (k2 (not_f (beq_t c27)) (k2 (not_f (beq_t c27)) (k2 (not_f (beq_t c27)) (k2 (not_f (beq_t c27)) (k2 (ir h24) (k2 (not_f (beq_t c27)) (k2 (not_f (beq_t c27)) (k2 (fl_sub (f := TF.enc) (z := 4) (j := k9) (a := 1) (n := 1) (fun _ => rfl) h24 (by decide) rfl) (k2 (not_f (beq_t c27)) (k2 (w5of_ret want_1 x23.Day r28 h29) (k2 (not_f (beq_t c27)) (k2 (not_f (beq_t c27)) (ok1 (not_t (beq_f c30))))))))))))))))))))))), by intro q; cases q⟩
      · obtain rfl := oR h
        exact ⟨Does.of_viewM 1 400 (f477 ++ (f478 ++ [tc, tc, tc, tc, tc, tc, tc, tc, tc, tc, tc, tc, tc, .op none (.b true), .br true, oc])) [0] (by kernel_rfl) (by kernel_rfl) (aO g479 (k2 (not_t (beq_f c27)) (k2 (not_t (beq_f c27)) (k2 (not_t (beq_f c27)) (k2 (not_t (beq_f c27)) (k2 (not_t (beq_f c27)) (k2 (not_t (beq_f c27)) (k2 (not_t (beq_f c27)) (k2 (not_t (beq_f c27)) (k2 (not_t (beq_f c27)) (k2 (not_t (beq_f c27)) (k2 (not_t (beq_f c27)) (k2 (not_t (beq_f c27)) (k2 (not_t (beq_f c27)) (k2 (not_t (beq_f c27)) (ok1 (rfl : true = true))))))))))))))))), by intro q; cases q⟩
    · obtain rfl := oR h
      exact ⟨Does.of_viewM 1 400 (f477 ++ [.br false]) [0] (by kernel_rfl) (by kernel_rfl) (ok1 (decide_eq_false c22)), by intro q; cases q⟩
noncomputable def w5AuditSums (have_0 : (List TC)) (want_1 : (List TC)) (day_2 : Int) : Option Bool :=
  (w5few have_0).bind fun r1 =>
  if r1 = true then
    (w5few want_1).bind fun r4 =>
    if r4 = true then
      (aUDays have_0 want_1).bind fun r7 =>
      (lp (w5AuditSums_L9_step have_0 want_1 day_2 r7) (false, (0 : Nat))).bind fun qq => match qq with
      | Sum.inl o9 =>
        none
      | Sum.inr (o9) =>
        (w5of have_0 day_2).bind fun r34 =>
        (w5of want_1 day_2).bind fun r36 =>
        if o9 = (!(r34 == r36)) then
          (w5awake).bind fun r39 =>
          some r39
        else
          none
    else
      (w5awake).bind fun r41 =>
      some r41
  else
    (w5awake).bind fun r43 =>
    some r43
theorem w5AuditSums_ret (have_0 : (List TC)) (want_1 : (List TC)) (day_2 : Int) (r : Bool) (h : w5AuditSums have_0 want_1 day_2 = some r) : Ret Tryz.prog G0 9 [.lst (fl TC.enc have_0) have_0.length, .lst (fl TC.enc want_1) want_1.length, .int .i64 day_2] (.bool r) [] := by
  unfold w5AuditSums at h
  obtain ⟨r1, h2, h⟩ := bnS h
  let f480 : List CH := (cs 2 ((.ret none [.any] (.bool r1) []) :: (cs 2 [])))
  rcases itS h with ⟨c3, h⟩ | ⟨c3, h⟩
  · obtain ⟨r4, h5, h⟩ := bnS h
    let f481 : List CH := ((.op (some false) .c) :: (.ret none [.any] (.bool r4) []) :: (cs 2 []))
    have g482 := k2 (w5few_ret have_0 r1 h2) (k2 ((not_f c3) : (!r1) = false) (ok1 (w5few_ret want_1 r4 h5)))
    rcases itS h with ⟨c6, h⟩ | ⟨c6, h⟩
    · obtain ⟨r7, h8, h⟩ := bnS h
      obtain ⟨qq, hl9, h⟩ := bnS h
      rcases qq with o9 | o9
      · dsimp only at h
        cases h
      · dsimp only at h
        obtain ⟨r34, h35, h⟩ := bnS h
        obtain ⟨r36, h37, h⟩ := bnS h
        rcases itS h with ⟨c38, h⟩ | ⟨c38, h⟩
        · obtain ⟨r39, h40, h⟩ := bnS h
          obtain rfl := oI h
          exact Ret.of_view 400 (f480 ++ (f481 ++ ((.br false) :: (cs 2 ((.ret none [.any, .any] (.vec 0 r7.length 4) [(bV (fl TF.enc r7) 39)]) :: (cs 3 ((.fcut 1 (.exit 0) (w5AuditSums_L9_T have_0 want_1 day_2 r7 (Sum.inr (o9))) [(bV (fl TF.enc r7) 39)] [0] [(0, .any), (1, .any), (2, .any), (7, .any), (8, .any), (9, .int .i64 (↑(0 : Nat) : Int))] [bS]) :: (cs 3 ((.ret none [.any, .any] (.int .i64 r34) []) :: (cs 2 ((.ret none [.any, .any] (.int .i64 r36) []) :: oa :: (cs 2 ((.ret (some true) [] (.bool r39) []) :: (cs 2 [])))))))))))))) [] (by kernel_rfl) (by kernel_rfl) (aO g482 (k2 ((not_f c6) : (!r4) = false) (k2 (aUDays_ret have_0 want_1 r7 h8) (k2 (rfl : (.int .i64 0 : AV) = .int .i64 (↑(0 : Nat) : Int)) (k2 (w5AuditSums_L9_does have_0 want_1 day_2 r7 (s := (false, (0 : Nat))) (r := Sum.inr (o9)) hl9) (k2 (w5of_ret have_0 day_2 r34 h35) (k2 (w5of_ret want_1 day_2 r36 h37) (k2 (beq_t c38) (ok1 (w5awake_ret r39 h40))))))))))
        · cases h
    · obtain ⟨r41, h42, h⟩ := bnS h
      obtain rfl := oI h
      exact Ret.of_view 400 (f480 ++ (f481 ++ [.br true, .ret none [] (.bool r41) [], oc])) [] (by kernel_rfl) (by kernel_rfl) (aO g482 (k2 ((not_t (eq_false_of_ne_true c6)) : (!r4) = true) (ok1 (w5awake_ret r41 h42))))
  · obtain ⟨r43, h44, h⟩ := bnS h
    obtain rfl := oI h
    exact Ret.of_view 400 (f480 ++ (tc :: (cs 3 [.br true, .ret none [] (.bool r43) [], oc]))) [] (by kernel_rfl) (by kernel_rfl) (k2 (w5few_ret have_0 r1 h2) (k2 ((not_t (eq_false_of_ne_true c3)) : (!r1) = true) (k2 (rfl : true = true) (ok1 (w5awake_ret r43 h44)))))
end Go.Proofs.YtpadimnchmghpaaGreatDoor.Av
