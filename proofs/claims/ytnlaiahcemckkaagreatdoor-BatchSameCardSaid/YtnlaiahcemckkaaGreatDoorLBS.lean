import Derived.Test.YtnlaiahcemckkaaGreatDoorAvZ
import Derived.Test.YtnlaiahcemckkaaGreatDoorProg
import Derived.Tactics
import Derived.Test.YtnlaiahcemckkaaGreatDoorBS3
import Derived.Test.YtnlaiahcemckkaaGreatDoorCO2
import Derived.Test.YtnlaiahcemckkaaGreatDoorAwK
set_option linter.unusedVariables false
set_option linter.unusedSimpArgs false
set_option maxHeartbeats 4000000
namespace Go.Proofs.YtnlaiahcemckkaaGreatDoor.Av
open Go Go.Proofs
noncomputable def tollwaylaw47_BatchSame_L30_step (a_0 : Tapi_Result) (b_1 : Tapi_Result) (r25 : (List (List UInt8))) (r27 : (List (List UInt8))) : Nat → Option (Nat ⊕ (Unit ⊕ Unit)) := fun k9 =>
  if (↑k9 : Int) < (↑r25.length : Int) then
    (r25[k9]?).bind fun x39 =>
    (r27[k9]?).bind fun x41 =>
    if x39 = x41 then
      if InR .i64 ((↑k9 : Int) + 1) then
        some (Sum.inl (k9 + 1))
      else none
    else
      some (Sum.inr (Sum.inl ()))
  else
    some (Sum.inr (Sum.inr (())))
def tollwaylaw47_BatchSame_L30_H (a_0 : Tapi_Result) (b_1 : Tapi_Result) (r25 : (List (List UInt8))) (r27 : (List (List UInt8))) : Nat → St := fun (s : Nat) => S 102 [(3, .ptr 0 0), (4, .ptr 1 0), (7, .vec 2 r25.length 1), (8, .vec 3 r27.length 1), (9, .int .i64 (↑s : Int))] [(bT (Tapi_Result.enc a_0) 29), (bT (Tapi_Result.enc b_1) 29), (bV (fl e_str r25) 9), (bV (fl e_str r27) 9)]
def tollwaylaw47_BatchSame_L30_h1  : List CH := (cs 3 [.op none .a])
def tollwaylaw47_BatchSame_L30_h2 (k9 : Nat) (x39 : (List UInt8)) (x41 : (List UInt8)) : List CH := ((.br true) :: (cs 2 ((.op none (.i k9)) :: (.op none (.v [.str x39])) :: (cs 2 [.op none (.i k9), .op none (.v [.str x41]), .op none .a]))))
def tollwaylaw47_BatchSame_L30_p3 (r25 : (List (List UInt8))) (r27 : (List (List UInt8))) (k9 : Nat) (x39 : (List UInt8)) (x41 : (List UInt8)) : List Prop := [((decide ((↑k9 : Int) < (↑r25.length : Int))) = true), ((↑k9 : Int) = ((k9 : Nat) : Int) ∧ k9 < r25.length), (sub (fl e_str r25) k9 1 = [.str x39]), ((↑k9 : Int) = ((k9 : Nat) : Int) ∧ k9 < r27.length), (sub (fl e_str r27) k9 1 = [.str x41])]
theorem tollwaylaw47_BatchSame_L30_p3q (r25 : (List (List UInt8))) (r27 : (List (List UInt8))) (k9 : Nat) (c38 : (↑k9 : Int) < (↑r25.length : Int)) (x39 : (List UInt8)) (h40 : r25[k9]? = some x39) (x41 : (List UInt8)) (h42 : r27[k9]? = some x41) : allOk (tollwaylaw47_BatchSame_L30_p3 r25 r27 k9 x39 x41) := ⟨(decide_eq_true c38), ⟨rfl, get_lt h40⟩, (fl_sub1 (f := e_str) (fun _ => rfl) h40 rfl), ⟨rfl, get_lt h42⟩, ok1 (fl_sub1 (f := e_str) (fun _ => rfl) h42 rfl)⟩
theorem tollwaylaw47_BatchSame_L30_0 (a_0 : Tapi_Result) (b_1 : Tapi_Result) (r25 : (List (List UInt8))) (r27 : (List (List UInt8))) (k9 : Nat) (c38 : (↑k9 : Int) < (↑r25.length : Int)) (x39 : (List UInt8)) (h40 : r25[k9]? = some x39) (x41 : (List UInt8)) (h42 : r27[k9]? = some x41) (c43 : x39 = x41) (h44 : InR .i64 ((↑k9 : Int) + 1)) : Does Tryz.prog GT 4 (bodyAt Tryz.prog 3 [1, 1, 1, 1, 1, 0, 1, 0, 0]) (tollwaylaw47_BatchSame_L30_H a_0 b_1 r25 r27 k9) .normal (S 102 [(3, .ptr 0 0), (4, .ptr 1 0), (7, .vec 2 r25.length 1), (8, .vec 3 r27.length 1), (9, .int .i64 ((↑k9 : Int) + 1))] [(bT (Tapi_Result.enc a_0) 29), (bT (Tapi_Result.enc b_1) 29), (bV (fl e_str r25) 9), (bV (fl e_str r27) 9)]) :=
  Does.of_viewM 4 400 ((tollwaylaw47_BatchSame_L30_h1) ++ ((tollwaylaw47_BatchSame_L30_h2 k9 x39 x41) ++ [.br false, .op none .c, .op none .w, .op none .c])) [0, 1, 2, 3] (ps := ((tollwaylaw47_BatchSame_L30_p3 r25 r27 k9 x39 x41) ++ [((!(x39 == x41)) = false), (IntKind.min .i64 ≤ ((↑k9 : Int) + 1) ∧ ((↑k9 : Int) + 1) ≤ IntKind.max .i64)])) (by kernel_rfl) (by kernel_rfl) (allOk_append.2 ⟨(tollwaylaw47_BatchSame_L30_p3q r25 r27 k9 c38 x39 h40 x41 h42), ⟨(not_f (beq_t c43)), ok1 h44⟩⟩)
theorem tollwaylaw47_BatchSame_L30_1 (a_0 : Tapi_Result) (b_1 : Tapi_Result) (r25 : (List (List UInt8))) (r27 : (List (List UInt8))) (k9 : Nat) (c38 : (↑k9 : Int) < (↑r25.length : Int)) (x39 : (List UInt8)) (h40 : r25[k9]? = some x39) (x41 : (List UInt8)) (h42 : r27[k9]? = some x41) (c43 : ¬ (x39 = x41)) : Does Tryz.prog GT 4 (bodyAt Tryz.prog 3 [1, 1, 1, 1, 1, 0, 1, 0, 0]) (tollwaylaw47_BatchSame_L30_H a_0 b_1 r25 r27 k9) .ret (S 102 [(6, .bool false)] [(bT (Tapi_Result.enc a_0) 29), (bT (Tapi_Result.enc b_1) 29), (bV (fl e_str r25) 9), (bV (fl e_str r27) 9)]) :=
  Does.of_viewM 4 400 ((tollwaylaw47_BatchSame_L30_h1) ++ ((tollwaylaw47_BatchSame_L30_h2 k9 x39 x41) ++ [.br true, .op none .c])) [0, 1, 2, 3] (ps := ((tollwaylaw47_BatchSame_L30_p3 r25 r27 k9 x39 x41) ++ [((!(x39 == x41)) = true)])) (by kernel_rfl) (by kernel_rfl) (allOk_append.2 ⟨(tollwaylaw47_BatchSame_L30_p3q r25 r27 k9 c38 x39 h40 x41 h42), (ok1 (not_t (beq_f c43)))⟩)
theorem tollwaylaw47_BatchSame_L30_2 (a_0 : Tapi_Result) (b_1 : Tapi_Result) (r25 : (List (List UInt8))) (r27 : (List (List UInt8))) (k9 : Nat) (c38 : ¬ ((↑k9 : Int) < (↑r25.length : Int))) : Does Tryz.prog GT 4 (bodyAt Tryz.prog 3 [1, 1, 1, 1, 1, 0, 1, 0, 0]) (tollwaylaw47_BatchSame_L30_H a_0 b_1 r25 r27 k9) (.exit 0) (S 102 [(3, .ptr 0 0), (4, .ptr 1 0)] [(bT (Tapi_Result.enc a_0) 29), (bT (Tapi_Result.enc b_1) 29), (bV (fl e_str r25) 9), (bV (fl e_str r27) 9)]) :=
  Does.of_viewM 4 400 ((tollwaylaw47_BatchSame_L30_h1) ++ [.br false]) [0, 1, 2, 3] (ps := [((decide ((↑k9 : Int) < (↑r25.length : Int))) = false)]) (by kernel_rfl) (by kernel_rfl) (ok1 (decide_eq_false c38))
def tollwaylaw47_BatchSame_L30_X (a_0 : Tapi_Result) (b_1 : Tapi_Result) (r25 : (List (List UInt8))) (r27 : (List (List UInt8))) : (Unit ⊕ Unit) → AEx := fun q => match q with | Sum.inl o => .ret | Sum.inr (o) => (.exit 0)
def tollwaylaw47_BatchSame_L30_E (a_0 : Tapi_Result) (b_1 : Tapi_Result) (r25 : (List (List UInt8))) (r27 : (List (List UInt8))) : (Unit ⊕ Unit) → St := fun q => match q with | Sum.inl o => S 102 [(6, .bool false)] [(bT (Tapi_Result.enc a_0) 29), (bT (Tapi_Result.enc b_1) 29), (bV (fl e_str r25) 9), (bV (fl e_str r27) 9)] | Sum.inr (o) => S 102 [(3, .ptr 0 0), (4, .ptr 1 0)] [(bT (Tapi_Result.enc a_0) 29), (bT (Tapi_Result.enc b_1) 29), (bV (fl e_str r25) 9), (bV (fl e_str r27) 9)]
theorem tollwaylaw47_BatchSame_L30_does (a_0 : Tapi_Result) (b_1 : Tapi_Result) (r25 : (List (List UInt8))) (r27 : (List (List UInt8))) {s : Nat} {r : Unit ⊕ Unit} (h : lp (tollwaylaw47_BatchSame_L30_step a_0 b_1 r25 r27) s = some r) : Does Tryz.prog GT 4 (.loop (bodyAt Tryz.prog 3 [1, 1, 1, 1, 1, 0, 1, 0, 0])) (tollwaylaw47_BatchSame_L30_H a_0 b_1 r25 r27 s) (tollwaylaw47_BatchSame_L30_X a_0 b_1 r25 r27 r) (tollwaylaw47_BatchSame_L30_E a_0 b_1 r25 r27 r) := by
  refine Does.lp (H := tollwaylaw47_BatchSame_L30_H a_0 b_1 r25 r27) (X := tollwaylaw47_BatchSame_L30_X a_0 b_1 r25 r27) (E := tollwaylaw47_BatchSame_L30_E a_0 b_1 r25 r27) (fun s s2 h => ?_) (fun s r h => ?_) h
  · revert h; revert s; intro k9 h
    unfold tollwaylaw47_BatchSame_L30_step at h
    try dsimp only at h
    rcases ite_some h with ⟨c38, h⟩ | ⟨c38, h⟩
    · obtain ⟨x39, h40, h⟩ := bind_some h
      obtain ⟨x41, h42, h⟩ := bind_some h
      rcases ite_some h with ⟨c43, h⟩ | ⟨c43, h⟩
      · obtain ⟨h44, h⟩ := guard_some h
        simp only [Option.some.injEq, Sum.inl.injEq] at h
        subst h
        have hq := tollwaylaw47_BatchSame_L30_0 a_0 b_1 r25 r27 k9 c38 x39 h40 x41 h42 c43 h44
        first | exact hq | exact Eq.mp (by simp only [tollwaylaw47_BatchSame_L30_H, List.length_set] <;> rfl) hq
      · simp at h
    · simp at h
  · revert h; revert s; intro k9 h
    unfold tollwaylaw47_BatchSame_L30_step at h
    try dsimp only at h
    rcases ite_some h with ⟨c38, h⟩ | ⟨c38, h⟩
    · obtain ⟨x39, h40, h⟩ := bind_some h
      obtain ⟨x41, h42, h⟩ := bind_some h
      rcases ite_some h with ⟨c43, h⟩ | ⟨c43, h⟩
      · obtain ⟨h44, h⟩ := guard_some h
        simp at h
      · simp only [Option.some.injEq, Sum.inr.injEq] at h
        subst h
        exact ⟨tollwaylaw47_BatchSame_L30_1 a_0 b_1 r25 r27 k9 c38 x39 h40 x41 h42 c43, by intro q; cases q⟩
    · simp only [Option.some.injEq, Sum.inr.injEq] at h
      subst h
      exact ⟨tollwaylaw47_BatchSame_L30_2 a_0 b_1 r25 r27 k9 c38, by intro q; cases q⟩
noncomputable def tollwaylaw47_BatchSame (a_0 : Tapi_Result) (b_1 : Tapi_Result) (id_2 : (List UInt8)) : Option Bool :=
  if InR .i64 ((↑a_0.Passages.length : Int) + (↑a_0.Rejects.length : Int)) then
    if InR .i64 (((↑a_0.Passages.length : Int) + (↑a_0.Rejects.length : Int)) + (↑a_0.Trips.length : Int)) then
      (some (((↑a_0.Passages.length : Int) + (↑a_0.Rejects.length : Int)) + (↑a_0.Trips.length : Int))).bind fun y3 =>
      if InR .i64 (y3 + (↑a_0.Stays.length : Int)) then
        if InR .i64 ((y3 + (↑a_0.Stays.length : Int)) + (↑a_0.Charges.length : Int)) then
          if InR .i64 (((y3 + (↑a_0.Stays.length : Int)) + (↑a_0.Charges.length : Int)) + (↑a_0.Exclusions.length : Int)) then
            (some (((y3 + (↑a_0.Stays.length : Int)) + (↑a_0.Charges.length : Int)) + (↑a_0.Exclusions.length : Int))).bind fun y8 =>
            if y8 > (60 : Int) then
              (awakeF).bind fun r11 =>
              some r11
            else
              if InR .i64 ((↑b_1.Passages.length : Int) + (↑b_1.Rejects.length : Int)) then
                if InR .i64 (((↑b_1.Passages.length : Int) + (↑b_1.Rejects.length : Int)) + (↑b_1.Trips.length : Int)) then
                  (some (((↑b_1.Passages.length : Int) + (↑b_1.Rejects.length : Int)) + (↑b_1.Trips.length : Int))).bind fun y15 =>
                  if InR .i64 (y15 + (↑b_1.Stays.length : Int)) then
                    if InR .i64 ((y15 + (↑b_1.Stays.length : Int)) + (↑b_1.Charges.length : Int)) then
                      if InR .i64 (((y15 + (↑b_1.Stays.length : Int)) + (↑b_1.Charges.length : Int)) + (↑b_1.Exclusions.length : Int)) then
                        (some (((y15 + (↑b_1.Stays.length : Int)) + (↑b_1.Charges.length : Int)) + (↑b_1.Exclusions.length : Int))).bind fun y20 =>
                        if y20 > (60 : Int) then
                          (awakeF).bind fun r23 =>
                          some r23
                        else
                          (batch_Fates a_0 id_2).bind fun r25 =>
                          (tollwayref47_Fates a_0 id_2).bind fun r27 =>
                          if (↑r25.length : Int) = (↑r27.length : Int) then
                            (lp (tollwaylaw47_BatchSame_L30_step a_0 b_1 r25 r27) (0 : Nat)).bind fun qq => match qq with
                            | Sum.inl o30 =>
                              none
                            | Sum.inr (o30) =>
                              (batch_Same a_0 b_1).bind fun r45 =>
                              (tollwayref47_Same a_0 b_1).bind fun r47 =>
                              if r45 = r47 then
                                (batch_Same a_0 a_0).bind fun r50 =>
                                if r50 = true then
                                  (awakeF).bind fun r53 =>
                                  some r53
                                else
                                  none
                              else
                                none
                          else
                            none
                      else none
                    else none
                  else none
                else none
              else none
          else none
        else none
      else none
    else none
  else none
def tollwaylaw47_BatchSame_h1 (y3 : Int) (y8 : Int) : List CH := (cs 9 ((.op none .w) :: (cs 3 ((.op none .w) :: (.tr (.eqt (.t 20) (.int .i64 y3))) :: (cs 3 ((.op none .w) :: (cs 3 ((.op none .w) :: (cs 3 [.op none .w, .tr (.eqt (.t 32) (.int .i64 y8)), .op none .a, .op none .c])))))))))
def tollwaylaw47_BatchSame_h2 (y15 : Int) (y20 : Int) : List CH := ((.op (some false) .c) :: (cs 5 ((.op none .w) :: (cs 3 ((.op none .w) :: (.tr (.eqt (.t 45) (.int .i64 y15))) :: (cs 3 ((.op none .w) :: (cs 3 ((.op none .w) :: (cs 3 [.op none .w, .tr (.eqt (.t 57) (.int .i64 y20)), .op none .a, .op none .c]))))))))))
def tollwaylaw47_BatchSame_p3 (a_0 : Tapi_Result) (y3 : Int) (y8 : Int) : List Prop := [(IntKind.min .i64 ≤ ((↑a_0.Passages.length : Int) + (↑a_0.Rejects.length : Int)) ∧ ((↑a_0.Passages.length : Int) + (↑a_0.Rejects.length : Int)) ≤ IntKind.max .i64), (IntKind.min .i64 ≤ (((↑a_0.Passages.length : Int) + (↑a_0.Rejects.length : Int)) + (↑a_0.Trips.length : Int)) ∧ (((↑a_0.Passages.length : Int) + (↑a_0.Rejects.length : Int)) + (↑a_0.Trips.length : Int)) ≤ IntKind.max .i64), ((.int .i64 (((↑a_0.Passages.length : Int) + (↑a_0.Rejects.length : Int)) + (↑a_0.Trips.length : Int)) : AV) = .int .i64 y3), (IntKind.min .i64 ≤ (y3 + (↑a_0.Stays.length : Int)) ∧ (y3 + (↑a_0.Stays.length : Int)) ≤ IntKind.max .i64), (IntKind.min .i64 ≤ ((y3 + (↑a_0.Stays.length : Int)) + (↑a_0.Charges.length : Int)) ∧ ((y3 + (↑a_0.Stays.length : Int)) + (↑a_0.Charges.length : Int)) ≤ IntKind.max .i64), (IntKind.min .i64 ≤ (((y3 + (↑a_0.Stays.length : Int)) + (↑a_0.Charges.length : Int)) + (↑a_0.Exclusions.length : Int)) ∧ (((y3 + (↑a_0.Stays.length : Int)) + (↑a_0.Charges.length : Int)) + (↑a_0.Exclusions.length : Int)) ≤ IntKind.max .i64), ((.int .i64 (((y3 + (↑a_0.Stays.length : Int)) + (↑a_0.Charges.length : Int)) + (↑a_0.Exclusions.length : Int)) : AV) = .int .i64 y8)]
theorem tollwaylaw47_BatchSame_p3q (a_0 : Tapi_Result) (h1 : InR .i64 ((↑a_0.Passages.length : Int) + (↑a_0.Rejects.length : Int))) (h2 : InR .i64 (((↑a_0.Passages.length : Int) + (↑a_0.Rejects.length : Int)) + (↑a_0.Trips.length : Int))) (y3 : Int) (h4 : some (((↑a_0.Passages.length : Int) + (↑a_0.Rejects.length : Int)) + (↑a_0.Trips.length : Int)) = some y3) (h5 : InR .i64 (y3 + (↑a_0.Stays.length : Int))) (h6 : InR .i64 ((y3 + (↑a_0.Stays.length : Int)) + (↑a_0.Charges.length : Int))) (h7 : InR .i64 (((y3 + (↑a_0.Stays.length : Int)) + (↑a_0.Charges.length : Int)) + (↑a_0.Exclusions.length : Int))) (y8 : Int) (h9 : some (((y3 + (↑a_0.Stays.length : Int)) + (↑a_0.Charges.length : Int)) + (↑a_0.Exclusions.length : Int)) = some y8) : allOk (tollwaylaw47_BatchSame_p3 a_0 y3 y8) := ⟨h1, h2, (congrArg _ (Option.some.inj h4)), h5, h6, h7, ok1 (congrArg _ (Option.some.inj h9))⟩
def tollwaylaw47_BatchSame_p4 (b_1 : Tapi_Result) (y8 : Int) (y15 : Int) (y20 : Int) : List Prop := [((decide (y8 > (60 : Int))) = false), (IntKind.min .i64 ≤ ((↑b_1.Passages.length : Int) + (↑b_1.Rejects.length : Int)) ∧ ((↑b_1.Passages.length : Int) + (↑b_1.Rejects.length : Int)) ≤ IntKind.max .i64), (IntKind.min .i64 ≤ (((↑b_1.Passages.length : Int) + (↑b_1.Rejects.length : Int)) + (↑b_1.Trips.length : Int)) ∧ (((↑b_1.Passages.length : Int) + (↑b_1.Rejects.length : Int)) + (↑b_1.Trips.length : Int)) ≤ IntKind.max .i64), ((.int .i64 (((↑b_1.Passages.length : Int) + (↑b_1.Rejects.length : Int)) + (↑b_1.Trips.length : Int)) : AV) = .int .i64 y15), (IntKind.min .i64 ≤ (y15 + (↑b_1.Stays.length : Int)) ∧ (y15 + (↑b_1.Stays.length : Int)) ≤ IntKind.max .i64), (IntKind.min .i64 ≤ ((y15 + (↑b_1.Stays.length : Int)) + (↑b_1.Charges.length : Int)) ∧ ((y15 + (↑b_1.Stays.length : Int)) + (↑b_1.Charges.length : Int)) ≤ IntKind.max .i64), (IntKind.min .i64 ≤ (((y15 + (↑b_1.Stays.length : Int)) + (↑b_1.Charges.length : Int)) + (↑b_1.Exclusions.length : Int)) ∧ (((y15 + (↑b_1.Stays.length : Int)) + (↑b_1.Charges.length : Int)) + (↑b_1.Exclusions.length : Int)) ≤ IntKind.max .i64), ((.int .i64 (((y15 + (↑b_1.Stays.length : Int)) + (↑b_1.Charges.length : Int)) + (↑b_1.Exclusions.length : Int)) : AV) = .int .i64 y20)]
theorem tollwaylaw47_BatchSame_p4q (b_1 : Tapi_Result) (y8 : Int) (c10 : ¬ (y8 > (60 : Int))) (h13 : InR .i64 ((↑b_1.Passages.length : Int) + (↑b_1.Rejects.length : Int))) (h14 : InR .i64 (((↑b_1.Passages.length : Int) + (↑b_1.Rejects.length : Int)) + (↑b_1.Trips.length : Int))) (y15 : Int) (h16 : some (((↑b_1.Passages.length : Int) + (↑b_1.Rejects.length : Int)) + (↑b_1.Trips.length : Int)) = some y15) (h17 : InR .i64 (y15 + (↑b_1.Stays.length : Int))) (h18 : InR .i64 ((y15 + (↑b_1.Stays.length : Int)) + (↑b_1.Charges.length : Int))) (h19 : InR .i64 (((y15 + (↑b_1.Stays.length : Int)) + (↑b_1.Charges.length : Int)) + (↑b_1.Exclusions.length : Int))) (y20 : Int) (h21 : some (((y15 + (↑b_1.Stays.length : Int)) + (↑b_1.Charges.length : Int)) + (↑b_1.Exclusions.length : Int)) = some y20) : allOk (tollwaylaw47_BatchSame_p4 b_1 y8 y15 y20) := ⟨(decide_eq_false c10), h13, h14, (congrArg _ (Option.some.inj h16)), h17, h18, h19, ok1 (congrArg _ (Option.some.inj h21))⟩
theorem tollwaylaw47_BatchSame_0 (a_0 : Tapi_Result) (b_1 : Tapi_Result) (id_2 : (List UInt8)) (h1 : InR .i64 ((↑a_0.Passages.length : Int) + (↑a_0.Rejects.length : Int))) (h2 : InR .i64 (((↑a_0.Passages.length : Int) + (↑a_0.Rejects.length : Int)) + (↑a_0.Trips.length : Int))) (y3 : Int) (h4 : some (((↑a_0.Passages.length : Int) + (↑a_0.Rejects.length : Int)) + (↑a_0.Trips.length : Int)) = some y3) (h5 : InR .i64 (y3 + (↑a_0.Stays.length : Int))) (h6 : InR .i64 ((y3 + (↑a_0.Stays.length : Int)) + (↑a_0.Charges.length : Int))) (h7 : InR .i64 (((y3 + (↑a_0.Stays.length : Int)) + (↑a_0.Charges.length : Int)) + (↑a_0.Exclusions.length : Int))) (y8 : Int) (h9 : some (((y3 + (↑a_0.Stays.length : Int)) + (↑a_0.Charges.length : Int)) + (↑a_0.Exclusions.length : Int)) = some y8) (c10 : y8 > (60 : Int)) (r11 : Bool) (h12 : awakeF = some r11) : Ret Tryz.prog GT 3 [.agg (Tapi_Result.enc a_0), .agg (Tapi_Result.enc b_1), .str id_2] (.bool r11) [] :=
  Ret.of_view 400 ((tollwaylaw47_BatchSame_h1 y3 y8) ++ ((.op (some true) .c) :: (cs 24 [.br true, .ret none [] (.bool r11) [], .op none .c]))) [] (ps := ((tollwaylaw47_BatchSame_p3 a_0 y3 y8) ++ [((decide (y8 > (60 : Int))) = true), (true = true), (Ret Tryz.prog GT 5 [] (.bool r11) [])])) (by kernel_rfl) (by kernel_rfl) (allOk_append.2 ⟨(tollwaylaw47_BatchSame_p3q a_0 h1 h2 y3 h4 h5 h6 h7 y8 h9), ⟨(decide_eq_true c10), rfl, ok1 (awake47_ret r11 h12)⟩⟩)
theorem tollwaylaw47_BatchSame_1 (a_0 : Tapi_Result) (b_1 : Tapi_Result) (id_2 : (List UInt8)) (h1 : InR .i64 ((↑a_0.Passages.length : Int) + (↑a_0.Rejects.length : Int))) (h2 : InR .i64 (((↑a_0.Passages.length : Int) + (↑a_0.Rejects.length : Int)) + (↑a_0.Trips.length : Int))) (y3 : Int) (h4 : some (((↑a_0.Passages.length : Int) + (↑a_0.Rejects.length : Int)) + (↑a_0.Trips.length : Int)) = some y3) (h5 : InR .i64 (y3 + (↑a_0.Stays.length : Int))) (h6 : InR .i64 ((y3 + (↑a_0.Stays.length : Int)) + (↑a_0.Charges.length : Int))) (h7 : InR .i64 (((y3 + (↑a_0.Stays.length : Int)) + (↑a_0.Charges.length : Int)) + (↑a_0.Exclusions.length : Int))) (y8 : Int) (h9 : some (((y3 + (↑a_0.Stays.length : Int)) + (↑a_0.Charges.length : Int)) + (↑a_0.Exclusions.length : Int)) = some y8) (c10 : ¬ (y8 > (60 : Int))) (h13 : InR .i64 ((↑b_1.Passages.length : Int) + (↑b_1.Rejects.length : Int))) (h14 : InR .i64 (((↑b_1.Passages.length : Int) + (↑b_1.Rejects.length : Int)) + (↑b_1.Trips.length : Int))) (y15 : Int) (h16 : some (((↑b_1.Passages.length : Int) + (↑b_1.Rejects.length : Int)) + (↑b_1.Trips.length : Int)) = some y15) (h17 : InR .i64 (y15 + (↑b_1.Stays.length : Int))) (h18 : InR .i64 ((y15 + (↑b_1.Stays.length : Int)) + (↑b_1.Charges.length : Int))) (h19 : InR .i64 (((y15 + (↑b_1.Stays.length : Int)) + (↑b_1.Charges.length : Int)) + (↑b_1.Exclusions.length : Int))) (y20 : Int) (h21 : some (((y15 + (↑b_1.Stays.length : Int)) + (↑b_1.Charges.length : Int)) + (↑b_1.Exclusions.length : Int)) = some y20) (c22 : y20 > (60 : Int)) (r23 : Bool) (h24 : awakeF = some r23) : Ret Tryz.prog GT 3 [.agg (Tapi_Result.enc a_0), .agg (Tapi_Result.enc b_1), .str id_2] (.bool r23) [] :=
  Ret.of_view 400 ((tollwaylaw47_BatchSame_h1 y3 y8) ++ ((tollwaylaw47_BatchSame_h2 y15 y20) ++ [.br true, .ret none [] (.bool r23) [], .op none .c])) [] (ps := ((tollwaylaw47_BatchSame_p3 a_0 y3 y8) ++ ((tollwaylaw47_BatchSame_p4 b_1 y8 y15 y20) ++ [((decide (y20 > (60 : Int))) = true), (Ret Tryz.prog GT 5 [] (.bool r23) [])]))) (by kernel_rfl) (by kernel_rfl) (allOk_append.2 ⟨(tollwaylaw47_BatchSame_p3q a_0 h1 h2 y3 h4 h5 h6 h7 y8 h9), (allOk_append.2 ⟨(tollwaylaw47_BatchSame_p4q b_1 y8 c10 h13 h14 y15 h16 h17 h18 h19 y20 h21), ⟨(decide_eq_true c22), ok1 (awake47_ret r23 h24)⟩⟩)⟩)
theorem tollwaylaw47_BatchSame_3 (a_0 : Tapi_Result) (b_1 : Tapi_Result) (id_2 : (List UInt8)) (h1 : InR .i64 ((↑a_0.Passages.length : Int) + (↑a_0.Rejects.length : Int))) (h2 : InR .i64 (((↑a_0.Passages.length : Int) + (↑a_0.Rejects.length : Int)) + (↑a_0.Trips.length : Int))) (y3 : Int) (h4 : some (((↑a_0.Passages.length : Int) + (↑a_0.Rejects.length : Int)) + (↑a_0.Trips.length : Int)) = some y3) (h5 : InR .i64 (y3 + (↑a_0.Stays.length : Int))) (h6 : InR .i64 ((y3 + (↑a_0.Stays.length : Int)) + (↑a_0.Charges.length : Int))) (h7 : InR .i64 (((y3 + (↑a_0.Stays.length : Int)) + (↑a_0.Charges.length : Int)) + (↑a_0.Exclusions.length : Int))) (y8 : Int) (h9 : some (((y3 + (↑a_0.Stays.length : Int)) + (↑a_0.Charges.length : Int)) + (↑a_0.Exclusions.length : Int)) = some y8) (c10 : ¬ (y8 > (60 : Int))) (h13 : InR .i64 ((↑b_1.Passages.length : Int) + (↑b_1.Rejects.length : Int))) (h14 : InR .i64 (((↑b_1.Passages.length : Int) + (↑b_1.Rejects.length : Int)) + (↑b_1.Trips.length : Int))) (y15 : Int) (h16 : some (((↑b_1.Passages.length : Int) + (↑b_1.Rejects.length : Int)) + (↑b_1.Trips.length : Int)) = some y15) (h17 : InR .i64 (y15 + (↑b_1.Stays.length : Int))) (h18 : InR .i64 ((y15 + (↑b_1.Stays.length : Int)) + (↑b_1.Charges.length : Int))) (h19 : InR .i64 (((y15 + (↑b_1.Stays.length : Int)) + (↑b_1.Charges.length : Int)) + (↑b_1.Exclusions.length : Int))) (y20 : Int) (h21 : some (((y15 + (↑b_1.Stays.length : Int)) + (↑b_1.Charges.length : Int)) + (↑b_1.Exclusions.length : Int)) = some y20) (c22 : ¬ (y20 > (60 : Int))) (r25 : (List (List UInt8))) (h26 : batch_Fates a_0 id_2 = some r25) (r27 : (List (List UInt8))) (h28 : tollwayref47_Fates a_0 id_2 = some r27) (c29 : (↑r25.length : Int) = (↑r27.length : Int)) (o30 : Unit) (hl30 : lp (tollwaylaw47_BatchSame_L30_step a_0 b_1 r25 r27) (0 : Nat) = some (Sum.inr (o30))) (r45 : Bool) (h46 : batch_Same a_0 b_1 = some r45) (r47 : Bool) (h48 : tollwayref47_Same a_0 b_1 = some r47) (c49 : r45 = r47) (r50 : Bool) (h51 : batch_Same a_0 a_0 = some r50) (c52 : r50 = true) (r53 : Bool) (h54 : awakeF = some r53) : Ret Tryz.prog GT 3 [.agg (Tapi_Result.enc a_0), .agg (Tapi_Result.enc b_1), .str id_2] (.bool r53) [] :=
  Ret.of_view 400 ((tollwaylaw47_BatchSame_h1 y3 y8) ++ ((tollwaylaw47_BatchSame_h2 y15 y20) ++ ((.br false) :: (cs 2 ((.ret none [.agg (Tapi_Result.enc a_0), .str id_2] (.vec 0 r25.length 1) [(bV (fl e_str r25) 9)]) :: (cs 3 ((.ret none [.agg (Tapi_Result.enc a_0), .str id_2] (.vec 0 r27.length 1) [(bV (fl e_str r27) 9)]) :: (cs 5 ((.op none .a) :: (.br false) :: (.op none .c) :: (.fcut 4 (.exit 0) [(3, .ptr 0 0), (4, .ptr 1 0)] [(bT (Tapi_Result.enc a_0) 29), (bT (Tapi_Result.enc b_1) 29), (bV (fl e_str r25) 9), (bV (fl e_str r27) 9)] [0, 1, 2, 3] [(3, .ptr 0 0), (4, .ptr 1 0), (7, .vec 2 r25.length 1), (8, .vec 3 r27.length 1), (9, .int .i64 (↑(0 : Nat) : Int))] [(bT (Tapi_Result.enc a_0) 29), (bT (Tapi_Result.enc b_1) 29), (bV (fl e_str r25) 9), (bV (fl e_str r27) 9)]) :: (cs 2 ((.ret none [.agg (Tapi_Result.enc a_0), .agg (Tapi_Result.enc b_1)] (.bool r45) []) :: (cs 2 ((.ret none [.agg (Tapi_Result.enc a_0), .agg (Tapi_Result.enc b_1)] (.bool r47) []) :: (cs 2 [.op (some true) .c, .op (some true) .c, .ret (some true) [.agg (Tapi_Result.enc a_0), .agg (Tapi_Result.enc a_0)] (.bool r50) [], .op none (.b true), .op none .c, .ret (some true) [] (.bool r53) [], .op none (.b true), .op none .c])))))))))))))) [] (ps := ((tollwaylaw47_BatchSame_p3 a_0 y3 y8) ++ ((tollwaylaw47_BatchSame_p4 b_1 y8 y15 y20) ++ [((decide (y20 > (60 : Int))) = false), ((.agg (Tapi_Result.enc a_0) : AV) = .agg (Tapi_Result.enc a_0)), ((.str id_2 : AV) = .str id_2), (Ret Tryz.prog GT 6 [.agg (Tapi_Result.enc a_0), .str id_2] (.vec 0 r25.length 1) [(bV (fl e_str r25) 9)]), ((.agg (Tapi_Result.enc a_0) : AV) = .agg (Tapi_Result.enc a_0)), ((.str id_2 : AV) = .str id_2), (Ret Tryz.prog GT 7 [.agg (Tapi_Result.enc a_0), .str id_2] (.vec 0 r27.length 1) [(bV (fl e_str r27) 9)]), ((!((↑r25.length : Int) == (↑r27.length : Int))) = false), ((.ptr 0 0 : AV) = .ptr 0 0), ((.ptr 1 0 : AV) = .ptr 1 0), ((.vec 2 r25.length 1 : AV) = .vec 2 r25.length 1), ((.vec 3 r27.length 1 : AV) = .vec 3 r27.length 1), ((.int .i64 0 : AV) = .int .i64 (↑(0 : Nat) : Int)), (((bT (Tapi_Result.enc a_0) 29) : Blk) = renB [0, 1, 2, 3] (bT (Tapi_Result.enc a_0) 29)), (((bT (Tapi_Result.enc b_1) 29) : Blk) = renB [0, 1, 2, 3] (bT (Tapi_Result.enc b_1) 29)), (((bV (fl e_str r25) 9) : Blk) = renB [0, 1, 2, 3] (bV (fl e_str r25) 9)), (((bV (fl e_str r27) 9) : Blk) = renB [0, 1, 2, 3] (bV (fl e_str r27) 9)), (Does Tryz.prog GT 4 (.loop (bodyAt Tryz.prog 3 [1, 1, 1, 1, 1, 0, 1, 0, 0])) (S 102 [(3, .ptr 0 0), (4, .ptr 1 0), (7, .vec 2 r25.length 1), (8, .vec 3 r27.length 1), (9, .int .i64 (↑(0 : Nat) : Int))] [(bT (Tapi_Result.enc a_0) 29), (bT (Tapi_Result.enc b_1) 29), (bV (fl e_str r25) 9), (bV (fl e_str r27) 9)]) (.exit 0) (S 102 [(3, .ptr 0 0), (4, .ptr 1 0)] [(bT (Tapi_Result.enc a_0) 29), (bT (Tapi_Result.enc b_1) 29), (bV (fl e_str r25) 9), (bV (fl e_str r27) 9)])), ((.agg (Tapi_Result.enc a_0) : AV) = .agg (Tapi_Result.enc a_0)), ((.agg (Tapi_Result.enc b_1) : AV) = .agg (Tapi_Result.enc b_1)), (Ret Tryz.prog GT 8 [.agg (Tapi_Result.enc a_0), .agg (Tapi_Result.enc b_1)] (.bool r45) []), ((.agg (Tapi_Result.enc a_0) : AV) = .agg (Tapi_Result.enc a_0)), ((.agg (Tapi_Result.enc b_1) : AV) = .agg (Tapi_Result.enc b_1)), (Ret Tryz.prog GT 9 [.agg (Tapi_Result.enc a_0), .agg (Tapi_Result.enc b_1)] (.bool r47) []), ((r45 == r47) = true), ((r45 == r47) = true), ((r45 == r47) = true), ((.agg (Tapi_Result.enc a_0) : AV) = .agg (Tapi_Result.enc a_0)), ((.agg (Tapi_Result.enc a_0) : AV) = .agg (Tapi_Result.enc a_0)), (Ret Tryz.prog GT 8 [.agg (Tapi_Result.enc a_0), .agg (Tapi_Result.enc a_0)] (.bool r50) []), ((r45 == r47) = true), (r50 = true), (Ret Tryz.prog GT 5 [] (.bool r53) []), (r50 = true)]))) (by kernel_rfl) (by kernel_rfl) (allOk_append.2 ⟨(tollwaylaw47_BatchSame_p3q a_0 h1 h2 y3 h4 h5 h6 h7 y8 h9), (allOk_append.2 ⟨(tollwaylaw47_BatchSame_p4q b_1 y8 c10 h13 h14 y15 h16 h17 h18 h19 y20 h21), ⟨(decide_eq_false c22), rfl, rfl, (batch_Fates_ret a_0 id_2 r25 h26), rfl, rfl, (tollwayref47_Fates_ret a_0 id_2 r27 h28), (not_f (beq_t c29)), rfl, rfl, rfl, rfl, rfl, rfl, rfl, rfl, rfl, (tollwaylaw47_BatchSame_L30_does a_0 b_1 r25 r27 (s := (0 : Nat)) (r := Sum.inr (o30)) hl30), rfl, rfl, (batch_Same_ret a_0 b_1 r45 h46), rfl, rfl, (tollwayref47_Same_ret a_0 b_1 r47 h48), (beq_t c49), (beq_t c49), (beq_t c49), rfl, rfl, (batch_Same_ret a_0 a_0 r50 h51), (beq_t c49), c52, (awake47_ret r53 h54), ok1 c52⟩⟩)⟩)
theorem tollwaylaw47_BatchSame_ret (a_0 : Tapi_Result) (b_1 : Tapi_Result) (id_2 : (List UInt8)) (r : Bool) (h : tollwaylaw47_BatchSame a_0 b_1 id_2 = some r) : Ret Tryz.prog GT 3 [.agg (Tapi_Result.enc a_0), .agg (Tapi_Result.enc b_1), .str id_2] (.bool r) [] := by
  unfold tollwaylaw47_BatchSame at h
  obtain ⟨h1, h⟩ := guard_some h
  obtain ⟨h2, h⟩ := guard_some h
  obtain ⟨y3, h4, h⟩ := bind_some h
  obtain ⟨h5, h⟩ := guard_some h
  obtain ⟨h6, h⟩ := guard_some h
  obtain ⟨h7, h⟩ := guard_some h
  obtain ⟨y8, h9, h⟩ := bind_some h
  rcases ite_some h with ⟨c10, h⟩ | ⟨c10, h⟩
  · obtain ⟨r11, h12, h⟩ := bind_some h
    simp only [Option.some.injEq] at h
    subst h
    exact tollwaylaw47_BatchSame_0 a_0 b_1 id_2 h1 h2 y3 h4 h5 h6 h7 y8 h9 c10 r11 h12
  · obtain ⟨h13, h⟩ := guard_some h
    obtain ⟨h14, h⟩ := guard_some h
    obtain ⟨y15, h16, h⟩ := bind_some h
    obtain ⟨h17, h⟩ := guard_some h
    obtain ⟨h18, h⟩ := guard_some h
    obtain ⟨h19, h⟩ := guard_some h
    obtain ⟨y20, h21, h⟩ := bind_some h
    rcases ite_some h with ⟨c22, h⟩ | ⟨c22, h⟩
    · obtain ⟨r23, h24, h⟩ := bind_some h
      simp only [Option.some.injEq] at h
      subst h
      exact tollwaylaw47_BatchSame_1 a_0 b_1 id_2 h1 h2 y3 h4 h5 h6 h7 y8 h9 c10 h13 h14 y15 h16 h17 h18 h19 y20 h21 c22 r23 h24
    · obtain ⟨r25, h26, h⟩ := bind_some h
      obtain ⟨r27, h28, h⟩ := bind_some h
      rcases ite_some h with ⟨c29, h⟩ | ⟨c29, h⟩
      · obtain ⟨qq, hl30, h⟩ := bind_some h
        rcases qq with o30 | o30
        · dsimp only at h
          cases h
        · dsimp only at h
          obtain ⟨r45, h46, h⟩ := bind_some h
          obtain ⟨r47, h48, h⟩ := bind_some h
          rcases ite_some h with ⟨c49, h⟩ | ⟨c49, h⟩
          · obtain ⟨r50, h51, h⟩ := bind_some h
            rcases ite_some h with ⟨c52, h⟩ | ⟨c52, h⟩
            · obtain ⟨r53, h54, h⟩ := bind_some h
              simp only [Option.some.injEq] at h
              subst h
              exact tollwaylaw47_BatchSame_3 a_0 b_1 id_2 h1 h2 y3 h4 h5 h6 h7 y8 h9 c10 h13 h14 y15 h16 h17 h18 h19 y20 h21 c22 r25 h26 r27 h28 c29 o30 hl30 r45 h46 r47 h48 c49 r50 h51 c52 r53 h54
            · cases h
          · cases h
      · cases h
end Go.Proofs.YtnlaiahcemckkaaGreatDoor.Av
