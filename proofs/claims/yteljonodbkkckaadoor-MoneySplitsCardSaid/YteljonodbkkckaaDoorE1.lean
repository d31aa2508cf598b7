import Derived.Test.YteljonodbkkckaaDoorAvX
import Derived.Test.YteljonodbkkckaaDoorProg
import Derived.Tactics
import Derived.Test.YteljonodbkkckaaDoorAwM
import Derived.Test.YteljonodbkkckaaDoorE0
set_option linter.unusedVariables false
set_option linter.unusedSimpArgs false
set_option maxHeartbeats 4000000
namespace Go.Proofs.YteljonodbkkckaaDoor.Av
open Go Go.Proofs
noncomputable def tollwayref03_Fits (n_0 : Int) : Option Bool :=
  if n_0 ≥ (-1125899906842624 : Int) then
    some (decide (n_0 ≤ (1125899906842624 : Int)))
  else
    some false
theorem tollwayref03_Fits_0 (n_0 : Int) (c1 : n_0 ≥ (-1125899906842624 : Int)) : Ret Tryd.prog G0 20 [.int .i64 n_0] (.bool (decide (n_0 ≤ (1125899906842624 : Int)))) [] :=
  Ret.of_view 400 (cs 2 ((.op none .a) :: (.op none .c) :: (.op (some true) .c) :: (.op none .a) :: (cs 2 []))) [] (ps := [((decide (n_0 ≥ (-1125899906842624 : Int))) = true)]) (by kernel_rfl) (by kernel_rfl) (ok1 (decide_eq_true c1))
theorem tollwayref03_Fits_1 (n_0 : Int) (c1 : ¬ (n_0 ≥ (-1125899906842624 : Int))) : Ret Tryd.prog G0 20 [.int .i64 n_0] (.bool false) [] :=
  Ret.of_view 400 (cs 2 ((.op none .a) :: (.op none .c) :: (.op (some false) .c) :: (cs 3 []))) [] (ps := [((decide (n_0 ≥ (-1125899906842624 : Int))) = false)]) (by kernel_rfl) (by kernel_rfl) (ok1 (decide_eq_false c1))
theorem tollwayref03_Fits_ret (n_0 : Int) (r : Bool) (h : tollwayref03_Fits n_0 = some r) : Ret Tryd.prog G0 20 [.int .i64 n_0] (.bool r) [] := by
  unfold tollwayref03_Fits at h
  rcases ite_some h with ⟨c1, h⟩ | ⟨c1, h⟩
  · simp only [Option.some.injEq] at h
    subst h
    exact tollwayref03_Fits_0 n_0 c1
  · simp only [Option.some.injEq] at h
    subst h
    exact tollwayref03_Fits_1 n_0 c1
noncomputable def tollwayref03_divide_L1_step (n_0 : Int) (num_1 : Int) (den_2 : Int) : (Int × Int × Int) → Option ((Int × Int × Int) ⊕ (Unit ⊕ (Int × Int)))
  | (v9, v10, v11) =>
    if v11 > (0 : Int) then
      if InR .u64 (v10 * 2) then
        if InR .u64 (2 * v9) then
          if den_2 ≠ (0 : Int) then
            if InR .u64 (Int.tdiv (v10 * 2) den_2) then
              if InR .u64 ((2 * v9) + (Int.tdiv (v10 * 2) den_2)) then
                if v11 ≠ (0 : Int) then
                  if InR .u64 (Int.tdiv n_0 v11) then
                    if (Int.tmod (Int.tdiv n_0 v11) 2) = (1 : Int) then
                      if InR .u64 ((Int.tmod (v10 * 2) den_2) + (Int.tmod num_1 den_2)) then
                        if InR .u64 (Int.tdiv num_1 den_2) then
                          if InR .u64 (((2 * v9) + (Int.tdiv (v10 * 2) den_2)) + (Int.tdiv num_1 den_2)) then
                            if InR .u64 (Int.tdiv ((Int.tmod (v10 * 2) den_2) + (Int.tmod num_1 den_2)) den_2) then
                              if InR .u64 ((((2 * v9) + (Int.tdiv (v10 * 2) den_2)) + (Int.tdiv num_1 den_2)) + (Int.tdiv ((Int.tmod (v10 * 2) den_2) + (Int.tmod num_1 den_2)) den_2)) then
                                (some ((((2 * v9) + (Int.tdiv (v10 * 2) den_2)) + (Int.tdiv num_1 den_2)) + (Int.tdiv ((Int.tmod (v10 * 2) den_2) + (Int.tmod num_1 den_2)) den_2))).bind fun y36 =>
                                if y36 ≥ (4503599627370496 : Int) then
                                  some (Sum.inr (Sum.inl ()))
                                else
                                  if InR .u64 (Int.tdiv v11 2) then
                                    some (Sum.inl (y36, (Int.tmod ((Int.tmod (v10 * 2) den_2) + (Int.tmod num_1 den_2)) den_2), (Int.tdiv v11 2)))
                                  else none
                              else none
                            else none
                          else none
                        else none
                      else none
                    else
                      if ((2 * v9) + (Int.tdiv (v10 * 2) den_2)) ≥ (4503599627370496 : Int) then
                        some (Sum.inr (Sum.inl ()))
                      else
                        if InR .u64 (Int.tdiv v11 2) then
                          some (Sum.inl (((2 * v9) + (Int.tdiv (v10 * 2) den_2)), (Int.tmod (v10 * 2) den_2), (Int.tdiv v11 2)))
                        else none
                  else none
                else none
              else none
            else none
          else none
        else none
      else none
    else
      some (Sum.inr (Sum.inr ((v9, v10))))
def tollwayref03_divide_L1_H (n_0 : Int) (num_1 : Int) (den_2 : Int) : (Int × Int × Int) → St := fun (s : (Int × Int × Int)) => S 53 [(0, .int .u64 n_0), (1, .int .u64 num_1), (2, .int .u64 den_2), (9, .int .u64 s.1), (10, .int .u64 s.2.1), (11, .int .u64 s.2.2)] []
theorem tollwayref03_divide_L1_0 (n_0 : Int) (num_1 : Int) (den_2 : Int) (v9 : Int) (v10 : Int) (v11 : Int) (c22 : v11 > (0 : Int)) (h23 : InR .u64 (v10 * 2)) (h24 : InR .u64 (2 * v9)) (h25 : den_2 ≠ (0 : Int)) (h26 : InR .u64 (Int.tdiv (v10 * 2) den_2)) (h27 : InR .u64 ((2 * v9) + (Int.tdiv (v10 * 2) den_2))) (h28 : v11 ≠ (0 : Int)) (h29 : InR .u64 (Int.tdiv n_0 v11)) (c30 : (Int.tmod (Int.tdiv n_0 v11) 2) = (1 : Int)) (h31 : InR .u64 ((Int.tmod (v10 * 2) den_2) + (Int.tmod num_1 den_2))) (h32 : InR .u64 (Int.tdiv num_1 den_2)) (h33 : InR .u64 (((2 * v9) + (Int.tdiv (v10 * 2) den_2)) + (Int.tdiv num_1 den_2))) (h34 : InR .u64 (Int.tdiv ((Int.tmod (v10 * 2) den_2) + (Int.tmod num_1 den_2)) den_2)) (h35 : InR .u64 ((((2 * v9) + (Int.tdiv (v10 * 2) den_2)) + (Int.tdiv num_1 den_2)) + (Int.tdiv ((Int.tmod (v10 * 2) den_2) + (Int.tmod num_1 den_2)) den_2))) (y36 : Int) (h37 : some ((((2 * v9) + (Int.tdiv (v10 * 2) den_2)) + (Int.tdiv num_1 den_2)) + (Int.tdiv ((Int.tmod (v10 * 2) den_2) + (Int.tmod num_1 den_2)) den_2)) = some y36) (c38 : y36 ≥ (4503599627370496 : Int)) : Does Tryd.prog G0 0 (bodyAt Tryd.prog 22 [1, 1, 0, 1, 0, 0]) (tollwayref03_divide_L1_H n_0 num_1 den_2 (v9, v10, v11)) .ret (S 53 [(6, .int .u64 0), (7, .int .u64 0), (8, .bool false)] []) :=
  Does.of_viewM 0 400 ((.op none .c) :: (.op none .a) :: (.br true) :: (.op none .c) :: (.op none .w) :: (cs 2 ((.op none .w) :: (cs 2 ((.op none .w) :: (.op none .w) :: (cs 3 ((.op none .a) :: (cs 3 ((.op none .w) :: (.op none .a) :: (.op none .a) :: (.br true) :: (cs 3 ((.op none .a) :: (.op none .w) :: (cs 4 ((.op none .w) :: (.op none .w) :: (cs 2 ((.op none .w) :: (.op none .w) :: (.trp (.eqt (.t 45) (.int .u64 y36))) :: (cs 3 ((.op none .a) :: (cs 2 ((.op none .a) :: (.br true) :: (cs 3 [])))))))))))))))))))) [] (ps := [((decide (v11 > (0 : Int))) = true), (IntKind.min .u64 ≤ (v10 * 2) ∧ (v10 * 2) ≤ IntKind.max .u64), (IntKind.min .u64 ≤ (2 * v9) ∧ (2 * v9) ≤ IntKind.max .u64), (den_2 ≠ (0 : Int)), (IntKind.min .u64 ≤ (Int.tdiv (v10 * 2) den_2) ∧ (Int.tdiv (v10 * 2) den_2) ≤ IntKind.max .u64), (IntKind.min .u64 ≤ ((2 * v9) + (Int.tdiv (v10 * 2) den_2)) ∧ ((2 * v9) + (Int.tdiv (v10 * 2) den_2)) ≤ IntKind.max .u64), (den_2 ≠ (0 : Int)), (v11 ≠ (0 : Int)), (IntKind.min .u64 ≤ (Int.tdiv n_0 v11) ∧ (Int.tdiv n_0 v11) ≤ IntKind.max .u64), (2 ≠ (0 : Int)), (((Int.tmod (Int.tdiv n_0 v11) 2) == (1 : Int)) = true), (den_2 ≠ (0 : Int)), (IntKind.min .u64 ≤ ((Int.tmod (v10 * 2) den_2) + (Int.tmod num_1 den_2)) ∧ ((Int.tmod (v10 * 2) den_2) + (Int.tmod num_1 den_2)) ≤ IntKind.max .u64), (den_2 ≠ (0 : Int)), (IntKind.min .u64 ≤ (Int.tdiv num_1 den_2) ∧ (Int.tdiv num_1 den_2) ≤ IntKind.max .u64), (IntKind.min .u64 ≤ (((2 * v9) + (Int.tdiv (v10 * 2) den_2)) + (Int.tdiv num_1 den_2)) ∧ (((2 * v9) + (Int.tdiv (v10 * 2) den_2)) + (Int.tdiv num_1 den_2)) ≤ IntKind.max .u64), (den_2 ≠ (0 : Int)), (IntKind.min .u64 ≤ (Int.tdiv ((Int.tmod (v10 * 2) den_2) + (Int.tmod num_1 den_2)) den_2) ∧ (Int.tdiv ((Int.tmod (v10 * 2) den_2) + (Int.tmod num_1 den_2)) den_2) ≤ IntKind.max .u64), (IntKind.min .u64 ≤ ((((2 * v9) + (Int.tdiv (v10 * 2) den_2)) + (Int.tdiv num_1 den_2)) + (Int.tdiv ((Int.tmod (v10 * 2) den_2) + (Int.tmod num_1 den_2)) den_2)) ∧ ((((2 * v9) + (Int.tdiv (v10 * 2) den_2)) + (Int.tdiv num_1 den_2)) + (Int.tdiv ((Int.tmod (v10 * 2) den_2) + (Int.tmod num_1 den_2)) den_2)) ≤ IntKind.max .u64), ((.int .u64 ((((2 * v9) + (Int.tdiv (v10 * 2) den_2)) + (Int.tdiv num_1 den_2)) + (Int.tdiv ((Int.tmod (v10 * 2) den_2) + (Int.tmod num_1 den_2)) den_2)) : AV) = .int .u64 y36), (den_2 ≠ (0 : Int)), ((decide (y36 ≥ (4503599627370496 : Int))) = true)]) (by kernel_rfl) (by kernel_rfl) ⟨(decide_eq_true c22), h23, h24, h25, h26, h27, h25, h28, h29, (by decide), (beq_t c30), h25, h31, h25, h32, h33, h25, h34, h35, (congrArg _ (Option.some.inj h37)), h25, ok1 (decide_eq_true c38)⟩
theorem tollwayref03_divide_L1_1 (n_0 : Int) (num_1 : Int) (den_2 : Int) (v9 : Int) (v10 : Int) (v11 : Int) (c22 : v11 > (0 : Int)) (h23 : InR .u64 (v10 * 2)) (h24 : InR .u64 (2 * v9)) (h25 : den_2 ≠ (0 : Int)) (h26 : InR .u64 (Int.tdiv (v10 * 2) den_2)) (h27 : InR .u64 ((2 * v9) + (Int.tdiv (v10 * 2) den_2))) (h28 : v11 ≠ (0 : Int)) (h29 : InR .u64 (Int.tdiv n_0 v11)) (c30 : (Int.tmod (Int.tdiv n_0 v11) 2) = (1 : Int)) (h31 : InR .u64 ((Int.tmod (v10 * 2) den_2) + (Int.tmod num_1 den_2))) (h32 : InR .u64 (Int.tdiv num_1 den_2)) (h33 : InR .u64 (((2 * v9) + (Int.tdiv (v10 * 2) den_2)) + (Int.tdiv num_1 den_2))) (h34 : InR .u64 (Int.tdiv ((Int.tmod (v10 * 2) den_2) + (Int.tmod num_1 den_2)) den_2)) (h35 : InR .u64 ((((2 * v9) + (Int.tdiv (v10 * 2) den_2)) + (Int.tdiv num_1 den_2)) + (Int.tdiv ((Int.tmod (v10 * 2) den_2) + (Int.tmod num_1 den_2)) den_2))) (y36 : Int) (h37 : some ((((2 * v9) + (Int.tdiv (v10 * 2) den_2)) + (Int.tdiv num_1 den_2)) + (Int.tdiv ((Int.tmod (v10 * 2) den_2) + (Int.tmod num_1 den_2)) den_2)) = some y36) (c38 : ¬ (y36 ≥ (4503599627370496 : Int))) (h39 : InR .u64 (Int.tdiv v11 2)) : Does Tryd.prog G0 0 (bodyAt Tryd.prog 22 [1, 1, 0, 1, 0, 0]) (tollwayref03_divide_L1_H n_0 num_1 den_2 (v9, v10, v11)) .normal (S 53 [(0, .int .u64 n_0), (1, .int .u64 num_1), (2, .int .u64 den_2), (9, .int .u64 y36), (10, .int .u64 (Int.tmod ((Int.tmod (v10 * 2) den_2) + (Int.tmod num_1 den_2)) den_2)), (11, .int .u64 (Int.tdiv v11 2))] []) :=
  Does.of_viewM 0 400 ((.op none .c) :: (.op none .a) :: (.br true) :: (.op none .c) :: (.op none .w) :: (cs 2 ((.op none .w) :: (cs 2 ((.op none .w) :: (.op none .w) :: (cs 3 ((.op none .a) :: (cs 3 ((.op none .w) :: (.op none .a) :: (.op none .a) :: (.br true) :: (cs 3 ((.op none .a) :: (.op none .w) :: (cs 4 ((.op none .w) :: (.op none .w) :: (cs 2 ((.op none .w) :: (.op none .w) :: (.trp (.eqt (.t 45) (.int .u64 y36))) :: (cs 3 ((.op none .a) :: (cs 2 [.op none .a, .br false, .op none .c, .op none .w, .op none .c])))))))))))))))))) [] (ps := [((decide (v11 > (0 : Int))) = true), (IntKind.min .u64 ≤ (v10 * 2) ∧ (v10 * 2) ≤ IntKind.max .u64), (IntKind.min .u64 ≤ (2 * v9) ∧ (2 * v9) ≤ IntKind.max .u64), (den_2 ≠ (0 : Int)), (IntKind.min .u64 ≤ (Int.tdiv (v10 * 2) den_2) ∧ (Int.tdiv (v10 * 2) den_2) ≤ IntKind.max .u64), (IntKind.min .u64 ≤ ((2 * v9) + (Int.tdiv (v10 * 2) den_2)) ∧ ((2 * v9) + (Int.tdiv (v10 * 2) den_2)) ≤ IntKind.max .u64), (den_2 ≠ (0 : Int)), (v11 ≠ (0 : Int)), (IntKind.min .u64 ≤ (Int.tdiv n_0 v11) ∧ (Int.tdiv n_0 v11) ≤ IntKind.max .u64), (2 ≠ (0 : Int)), (((Int.tmod (Int.tdiv n_0 v11) 2) == (1 : Int)) = true), (den_2 ≠ (0 : Int)), (IntKind.min .u64 ≤ ((Int.tmod (v10 * 2) den_2) + (Int.tmod num_1 den_2)) ∧ ((Int.tmod (v10 * 2) den_2) + (Int.tmod num_1 den_2)) ≤ IntKind.max .u64), (den_2 ≠ (0 : Int)), (IntKind.min .u64 ≤ (Int.tdiv num_1 den_2) ∧ (Int.tdiv num_1 den_2) ≤ IntKind.max .u64), (IntKind.min .u64 ≤ (((2 * v9) + (Int.tdiv (v10 * 2) den_2)) + (Int.tdiv num_1 den_2)) ∧ (((2 * v9) + (Int.tdiv (v10 * 2) den_2)) + (Int.tdiv num_1 den_2)) ≤ IntKind.max .u64), (den_2 ≠ (0 : Int)), (IntKind.min .u64 ≤ (Int.tdiv ((Int.tmod (v10 * 2) den_2) + (Int.tmod num_1 den_2)) den_2) ∧ (Int.tdiv ((Int.tmod (v10 * 2) den_2) + (Int.tmod num_1 den_2)) den_2) ≤ IntKind.max .u64), (IntKind.min .u64 ≤ ((((2 * v9) + (Int.tdiv (v10 * 2) den_2)) + (Int.tdiv num_1 den_2)) + (Int.tdiv ((Int.tmod (v10 * 2) den_2) + (Int.tmod num_1 den_2)) den_2)) ∧ ((((2 * v9) + (Int.tdiv (v10 * 2) den_2)) + (Int.tdiv num_1 den_2)) + (Int.tdiv ((Int.tmod (v10 * 2) den_2) + (Int.tmod num_1 den_2)) den_2)) ≤ IntKind.max .u64), ((.int .u64 ((((2 * v9) + (Int.tdiv (v10 * 2) den_2)) + (Int.tdiv num_1 den_2)) + (Int.tdiv ((Int.tmod (v10 * 2) den_2) + (Int.tmod num_1 den_2)) den_2)) : AV) = .int .u64 y36), (den_2 ≠ (0 : Int)), ((decide (y36 ≥ (4503599627370496 : Int))) = false), (2 ≠ (0 : Int)), (IntKind.min .u64 ≤ (Int.tdiv v11 2) ∧ (Int.tdiv v11 2) ≤ IntKind.max .u64)]) (by kernel_rfl) (by kernel_rfl) ⟨(decide_eq_true c22), h23, h24, h25, h26, h27, h25, h28, h29, (by decide), (beq_t c30), h25, h31, h25, h32, h33, h25, h34, h35, (congrArg _ (Option.some.inj h37)), h25, (decide_eq_false c38), (by decide), ok1 h39⟩
theorem tollwayref03_divide_L1_2 (n_0 : Int) (num_1 : Int) (den_2 : Int) (v9 : Int) (v10 : Int) (v11 : Int) (c22 : v11 > (0 : Int)) (h23 : InR .u64 (v10 * 2)) (h24 : InR .u64 (2 * v9)) (h25 : den_2 ≠ (0 : Int)) (h26 : InR .u64 (Int.tdiv (v10 * 2) den_2)) (h27 : InR .u64 ((2 * v9) + (Int.tdiv (v10 * 2) den_2))) (h28 : v11 ≠ (0 : Int)) (h29 : InR .u64 (Int.tdiv n_0 v11)) (c30 : ¬ ((Int.tmod (Int.tdiv n_0 v11) 2) = (1 : Int))) (c40 : ((2 * v9) + (Int.tdiv (v10 * 2) den_2)) ≥ (4503599627370496 : Int)) : Does Tryd.prog G0 0 (bodyAt Tryd.prog 22 [1, 1, 0, 1, 0, 0]) (tollwayref03_divide_L1_H n_0 num_1 den_2 (v9, v10, v11)) .ret (S 53 [(6, .int .u64 0), (7, .int .u64 0), (8, .bool false)] []) :=
  Does.of_viewM 0 400 ((.op none .c) :: (.op none .a) :: (.br true) :: (.op none .c) :: (.op none .w) :: (cs 2 ((.op none .w) :: (cs 2 ((.op none .w) :: (.op none .w) :: (cs 3 ((.op none .a) :: (cs 3 ((.op none .w) :: (.op none .a) :: (.op none .a) :: (.br false) :: (.op none .c) :: (.op none .a) :: (.br true) :: (cs 3 [])))))))))) [] (ps := [((decide (v11 > (0 : Int))) = true), (IntKind.min .u64 ≤ (v10 * 2) ∧ (v10 * 2) ≤ IntKind.max .u64), (IntKind.min .u64 ≤ (2 * v9) ∧ (2 * v9) ≤ IntKind.max .u64), (den_2 ≠ (0 : Int)), (IntKind.min .u64 ≤ (Int.tdiv (v10 * 2) den_2) ∧ (Int.tdiv (v10 * 2) den_2) ≤ IntKind.max .u64), (IntKind.min .u64 ≤ ((2 * v9) + (Int.tdiv (v10 * 2) den_2)) ∧ ((2 * v9) + (Int.tdiv (v10 * 2) den_2)) ≤ IntKind.max .u64), (den_2 ≠ (0 : Int)), (v11 ≠ (0 : Int)), (IntKind.min .u64 ≤ (Int.tdiv n_0 v11) ∧ (Int.tdiv n_0 v11) ≤ IntKind.max .u64), (2 ≠ (0 : Int)), (((Int.tmod (Int.tdiv n_0 v11) 2) == (1 : Int)) = false), ((decide (((2 * v9) + (Int.tdiv (v10 * 2) den_2)) ≥ (4503599627370496 : Int))) = true)]) (by kernel_rfl) (by kernel_rfl) ⟨(decide_eq_true c22), h23, h24, h25, h26, h27, h25, h28, h29, (by decide), (beq_f c30), ok1 (decide_eq_true c40)⟩
theorem tollwayref03_divide_L1_3 (n_0 : Int) (num_1 : Int) (den_2 : Int) (v9 : Int) (v10 : Int) (v11 : Int) (c22 : v11 > (0 : Int)) (h23 : InR .u64 (v10 * 2)) (h24 : InR .u64 (2 * v9)) (h25 : den_2 ≠ (0 : Int)) (h26 : InR .u64 (Int.tdiv (v10 * 2) den_2)) (h27 : InR .u64 ((2 * v9) + (Int.tdiv (v10 * 2) den_2))) (h28 : v11 ≠ (0 : Int)) (h29 : InR .u64 (Int.tdiv n_0 v11)) (c30 : ¬ ((Int.tmod (Int.tdiv n_0 v11) 2) = (1 : Int))) (c40 : ¬ (((2 * v9) + (Int.tdiv (v10 * 2) den_2)) ≥ (4503599627370496 : Int))) (h41 : InR .u64 (Int.tdiv v11 2)) : Does Tryd.prog G0 0 (bodyAt Tryd.prog 22 [1, 1, 0, 1, 0, 0]) (tollwayref03_divide_L1_H n_0 num_1 den_2 (v9, v10, v11)) .normal (S 53 [(0, .int .u64 n_0), (1, .int .u64 num_1), (2, .int .u64 den_2), (9, .int .u64 ((2 * v9) + (Int.tdiv (v10 * 2) den_2))), (10, .int .u64 (Int.tmod (v10 * 2) den_2)), (11, .int .u64 (Int.tdiv v11 2))] []) :=
  Does.of_viewM 0 400 ((.op none .c) :: (.op none .a) :: (.br true) :: (.op none .c) :: (.op none .w) :: (cs 2 ((.op none .w) :: (cs 2 ((.op none .w) :: (.op none .w) :: (cs 3 ((.op none .a) :: (cs 3 [.op none .w, .op none .a, .op none .a, .br false, .op none .c, .op none .a, .br false, .op none .c, .op none .w, .op none .c])))))))) [] (ps := [((decide (v11 > (0 : Int))) = true), (IntKind.min .u64 ≤ (v10 * 2) ∧ (v10 * 2) ≤ IntKind.max .u64), (IntKind.min .u64 ≤ (2 * v9) ∧ (2 * v9) ≤ IntKind.max .u64), (den_2 ≠ (0 : Int)), (IntKind.min .u64 ≤ (Int.tdiv (v10 * 2) den_2) ∧ (Int.tdiv (v10 * 2) den_2) ≤ IntKind.max .u64), (IntKind.min .u64 ≤ ((2 * v9) + (Int.tdiv (v10 * 2) den_2)) ∧ ((2 * v9) + (Int.tdiv (v10 * 2) den_2)) ≤ IntKind.max .u64), (den_2 ≠ (0 : Int)), (v11 ≠ (0 : Int)), (IntKind.min .u64 ≤ (Int.tdiv n_0 v11) ∧ (Int.tdiv n_0 v11) ≤ IntKind.max .u64), (2 ≠ (0 : Int)), (((Int.tmod (Int.tdiv n_0 v11) 2) == (1 : Int)) = false), ((decide (((2 * v9) + (Int.tdiv (v10 * 2) den_2)) ≥ (4503599627370496 : Int))) = false), (2 ≠ (0 : Int)), (IntKind.min .u64 ≤ (Int.tdiv v11 2) ∧ (Int.tdiv v11 2) ≤ IntKind.max .u64)]) (by kernel_rfl) (by kernel_rfl) ⟨(decide_eq_true c22), h23, h24, h25, h26, h27, h25, h28, h29, (by decide), (beq_f c30), (decide_eq_false c40), (by decide), ok1 h41⟩
theorem tollwayref03_divide_L1_4 (n_0 : Int) (num_1 : Int) (den_2 : Int) (v9 : Int) (v10 : Int) (v11 : Int) (c22 : ¬ (v11 > (0 : Int))) : Does Tryd.prog G0 0 (bodyAt Tryd.prog 22 [1, 1, 0, 1, 0, 0]) (tollwayref03_divide_L1_H n_0 num_1 den_2 (v9, v10, v11)) (.exit 0) (S 53 [(9, .int .u64 v9), (10, .int .u64 v10)] []) :=
  Does.of_viewM 0 400 [.op none .c, .op none .a, .br false] [] (ps := [((decide (v11 > (0 : Int))) = false)]) (by kernel_rfl) (by kernel_rfl) (ok1 (decide_eq_false c22))
def tollwayref03_divide_L1_X (n_0 : Int) (num_1 : Int) (den_2 : Int) : (Unit ⊕ (Int × Int)) → AEx := fun q => match q with | Sum.inl o => .ret | Sum.inr (o) => (.exit 0)
def tollwayref03_divide_L1_E (n_0 : Int) (num_1 : Int) (den_2 : Int) : (Unit ⊕ (Int × Int)) → St := fun q => match q with | Sum.inl o => S 53 [(6, .int .u64 0), (7, .int .u64 0), (8, .bool false)] [] | Sum.inr (o) => S 53 [(9, .int .u64 o.1), (10, .int .u64 o.2)] []
theorem tollwayref03_divide_L1_does (n_0 : Int) (num_1 : Int) (den_2 : Int) {s : (Int × Int × Int)} {r : Unit ⊕ (Int × Int)} (h : lp (tollwayref03_divide_L1_step n_0 num_1 den_2) s = some r) : Does Tryd.prog G0 0 (.loop (bodyAt Tryd.prog 22 [1, 1, 0, 1, 0, 0])) (tollwayref03_divide_L1_H n_0 num_1 den_2 s) (tollwayref03_divide_L1_X n_0 num_1 den_2 r) (tollwayref03_divide_L1_E n_0 num_1 den_2 r) := by
  refine Does.lp (H := tollwayref03_divide_L1_H n_0 num_1 den_2) (X := tollwayref03_divide_L1_X n_0 num_1 den_2) (E := tollwayref03_divide_L1_E n_0 num_1 den_2) (fun s s2 h => ?_) (fun s r h => ?_) h
  · obtain ⟨v9, v10, v11⟩ := s
    unfold tollwayref03_divide_L1_step at h
    try dsimp only at h
    rcases ite_some h with ⟨c22, h⟩ | ⟨c22, h⟩
    · obtain ⟨h23, h⟩ := guard_some h
      obtain ⟨h24, h⟩ := guard_some h
      obtain ⟨h25, h⟩ := guard_some h
      obtain ⟨h26, h⟩ := guard_some h
      obtain ⟨h27, h⟩ := guard_some h
      obtain ⟨h28, h⟩ := guard_some h
      obtain ⟨h29, h⟩ := guard_some h
      rcases ite_some h with ⟨c30, h⟩ | ⟨c30, h⟩
      · obtain ⟨h31, h⟩ := guard_some h
        obtain ⟨h32, h⟩ := guard_some h
        obtain ⟨h33, h⟩ := guard_some h
        obtain ⟨h34, h⟩ := guard_some h
        obtain ⟨h35, h⟩ := guard_some h
        obtain ⟨y36, h37, h⟩ := bind_some h
        rcases ite_some h with ⟨c38, h⟩ | ⟨c38, h⟩
        · simp at h
        · obtain ⟨h39, h⟩ := guard_some h
          simp only [Option.some.injEq, Sum.inl.injEq] at h
          subst h
          exact tollwayref03_divide_L1_1 n_0 num_1 den_2 v9 v10 v11 c22 h23 h24 h25 h26 h27 h28 h29 c30 h31 h32 h33 h34 h35 y36 h37 c38 h39
      · rcases ite_some h with ⟨c40, h⟩ | ⟨c40, h⟩
        · simp at h
        · obtain ⟨h41, h⟩ := guard_some h
          simp only [Option.some.injEq, Sum.inl.injEq] at h
          subst h
          exact tollwayref03_divide_L1_3 n_0 num_1 den_2 v9 v10 v11 c22 h23 h24 h25 h26 h27 h28 h29 c30 c40 h41
    · simp at h
  · obtain ⟨v9, v10, v11⟩ := s
    unfold tollwayref03_divide_L1_step at h
    try dsimp only at h
    rcases ite_some h with ⟨c22, h⟩ | ⟨c22, h⟩
    · obtain ⟨h23, h⟩ := guard_some h
      obtain ⟨h24, h⟩ := guard_some h
      obtain ⟨h25, h⟩ := guard_some h
      obtain ⟨h26, h⟩ := guard_some h
      obtain ⟨h27, h⟩ := guard_some h
      obtain ⟨h28, h⟩ := guard_some h
      obtain ⟨h29, h⟩ := guard_some h
      rcases ite_some h with ⟨c30, h⟩ | ⟨c30, h⟩
      · obtain ⟨h31, h⟩ := guard_some h
        obtain ⟨h32, h⟩ := guard_some h
        obtain ⟨h33, h⟩ := guard_some h
        obtain ⟨h34, h⟩ := guard_some h
        obtain ⟨h35, h⟩ := guard_some h
        obtain ⟨y36, h37, h⟩ := bind_some h
        rcases ite_some h with ⟨c38, h⟩ | ⟨c38, h⟩
        · simp only [Option.some.injEq, Sum.inr.injEq] at h
          subst h
          exact ⟨tollwayref03_divide_L1_0 n_0 num_1 den_2 v9 v10 v11 c22 h23 h24 h25 h26 h27 h28 h29 c30 h31 h32 h33 h34 h35 y36 h37 c38, by intro q; cases q⟩
        · obtain ⟨h39, h⟩ := guard_some h
          simp at h
      · rcases ite_some h with ⟨c40, h⟩ | ⟨c40, h⟩
        · simp only [Option.some.injEq, Sum.inr.injEq] at h
          subst h
          exact ⟨tollwayref03_divide_L1_2 n_0 num_1 den_2 v9 v10 v11 c22 h23 h24 h25 h26 h27 h28 h29 c30 c40, by intro q; cases q⟩
        · obtain ⟨h41, h⟩ := guard_some h
          simp at h
    · simp only [Option.some.injEq, Sum.inr.injEq] at h
      subst h
      exact ⟨tollwayref03_divide_L1_4 n_0 num_1 den_2 v9 v10 v11 c22, by intro q; cases q⟩
noncomputable def tollwayref03_divide (n_0 : Int) (num_1 : Int) (den_2 : Int) : Option (Int × Int × Bool) :=
  (lp (tollwayref03_divide_L1_step n_0 num_1 den_2) ((0 : Int), (0 : Int), (1125899906842624 : Int))).bind fun qq => match qq with
  | Sum.inl o1 =>
    some (0, 0, false)
  | Sum.inr (o1) =>
    some (o1.1, o1.2, true)
theorem tollwayref03_divide_0 (n_0 : Int) (num_1 : Int) (den_2 : Int) (o1 : Unit) (hl1 : lp (tollwayref03_divide_L1_step n_0 num_1 den_2) ((0 : Int), (0 : Int), (1125899906842624 : Int)) = some (Sum.inl o1)) : Ret Tryd.prog G0 22 [.int .u64 n_0, .int .u64 num_1, .int .u64 den_2] (.tup [.int .u64 0, .int .u64 0, .bool false]) [] :=
  Ret.of_view 400 (cs 6 [.fcut 0 .ret [(6, .int .u64 0), (7, .int .u64 0), (8, .bool false)] [] [] [(0, .int .u64 n_0), (1, .int .u64 num_1), (2, .int .u64 den_2), (9, .int .u64 (0 : Int)), (10, .int .u64 (0 : Int)), (11, .int .u64 (1125899906842624 : Int))] []]) [] (ps := [((.int .u64 n_0 : AV) = .int .u64 n_0), ((.int .u64 num_1 : AV) = .int .u64 num_1), ((.int .u64 den_2 : AV) = .int .u64 den_2), ((.int .u64 0 : AV) = .int .u64 (0 : Int)), ((.int .u64 0 : AV) = .int .u64 (0 : Int)), ((.int .u64 1125899906842624 : AV) = .int .u64 (1125899906842624 : Int)), (Does Tryd.prog G0 0 (.loop (bodyAt Tryd.prog 22 [1, 1, 0, 1, 0, 0])) (S 53 [(0, .int .u64 n_0), (1, .int .u64 num_1), (2, .int .u64 den_2), (9, .int .u64 (0 : Int)), (10, .int .u64 (0 : Int)), (11, .int .u64 (1125899906842624 : Int))] []) .ret (S 53 [(6, .int .u64 0), (7, .int .u64 0), (8, .bool false)] []))]) (by kernel_rfl) (by kernel_rfl) ⟨rfl, rfl, rfl, rfl, rfl, rfl, ok1 (tollwayref03_divide_L1_does n_0 num_1 den_2 hl1)⟩
theorem tollwayref03_divide_1 (n_0 : Int) (num_1 : Int) (den_2 : Int) (o1 : (Int × Int)) (hl1 : lp (tollwayref03_divide_L1_step n_0 num_1 den_2) ((0 : Int), (0 : Int), (1125899906842624 : Int)) = some (Sum.inr (o1))) : Ret Tryd.prog G0 22 [.int .u64 n_0, .int .u64 num_1, .int .u64 den_2] (.tup [.int .u64 o1.1, .int .u64 o1.2, .bool true]) [] :=
  Ret.of_view 400 (cs 6 ((.fcut 0 (.exit 0) [(9, .int .u64 o1.1), (10, .int .u64 o1.2)] [] [] [(0, .int .u64 n_0), (1, .int .u64 num_1), (2, .int .u64 den_2), (9, .int .u64 (0 : Int)), (10, .int .u64 (0 : Int)), (11, .int .u64 (1125899906842624 : Int))] []) :: (cs 5 []))) [] (ps := [((.int .u64 n_0 : AV) = .int .u64 n_0), ((.int .u64 num_1 : AV) = .int .u64 num_1), ((.int .u64 den_2 : AV) = .int .u64 den_2), ((.int .u64 0 : AV) = .int .u64 (0 : Int)), ((.int .u64 0 : AV) = .int .u64 (0 : Int)), ((.int .u64 1125899906842624 : AV) = .int .u64 (1125899906842624 : Int)), (Does Tryd.prog G0 0 (.loop (bodyAt Tryd.prog 22 [1, 1, 0, 1, 0, 0])) (S 53 [(0, .int .u64 n_0), (1, .int .u64 num_1), (2, .int .u64 den_2), (9, .int .u64 (0 : Int)), (10, .int .u64 (0 : Int)), (11, .int .u64 (1125899906842624 : Int))] []) (.exit 0) (S 53 [(9, .int .u64 o1.1), (10, .int .u64 o1.2)] []))]) (by kernel_rfl) (by kernel_rfl) ⟨rfl, rfl, rfl, rfl, rfl, rfl, ok1 (tollwayref03_divide_L1_does n_0 num_1 den_2 hl1)⟩
theorem tollwayref03_divide_ret (n_0 : Int) (num_1 : Int) (den_2 : Int) (r : (Int × Int × Bool)) (h : tollwayref03_divide n_0 num_1 den_2 = some r) : Ret Tryd.prog G0 22 [.int .u64 n_0, .int .u64 num_1, .int .u64 den_2] (.tup [.int .u64 r.1, .int .u64 r.2.1, .bool r.2.2]) [] := by
  unfold tollwayref03_divide at h
  obtain ⟨qq, hl1, h⟩ := bind_some h
  rcases qq with o1 | o1
  · dsimp only at h
    simp only [Option.some.injEq] at h
    subst h
    exact tollwayref03_divide_0 n_0 num_1 den_2 o1 hl1
  · dsimp only at h
    simp only [Option.some.injEq] at h
    subst h
    exact tollwayref03_divide_1 n_0 num_1 den_2 o1 hl1
end Go.Proofs.YteljonodbkkckaaDoor.Av
