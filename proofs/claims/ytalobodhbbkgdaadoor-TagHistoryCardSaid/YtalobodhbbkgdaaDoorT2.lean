import Derived.Test.YtalobodhbbkgdaaDoorAvX
import Derived.Test.YtalobodhbbkgdaaDoorProg
import Derived.Tactics
import Derived.Test.YtalobodhbbkgdaaDoorT1
set_option linter.unusedVariables false
set_option linter.unusedSimpArgs false
set_option maxHeartbeats 4000000
namespace Go.Proofs.YtalobodhbbkgdaaDoor.Av
open Go Go.Proofs
noncomputable def tollwayref11_sum_L1_step (s_0 : (List UInt8)) : (Int × Nat) → Option ((Int × Nat) ⊕ (Unit ⊕ Int))
  | (v3, k4) =>
    if (↑k4 : Int) < (↑s_0.length : Int) then
      (s_0[k4]?).bind fun x24 =>
      if (x24.toNat : Int) < (48 : Int) then
        some (Sum.inr (Sum.inl ()))
      else
        if (x24.toNat : Int) > (57 : Int) then
          some (Sum.inr (Sum.inl ()))
        else
          if InR .u8 ((x24.toNat : Int) - 48) then
            if InR .i64 ((x24.toNat : Int) - 48) then
              if (Int.tmod (↑k4 : Int) 2) = (0 : Int) then
                if InR .i64 (2 * ((x24.toNat : Int) - 48)) then
                  if (2 * ((x24.toNat : Int) - 48)) > (9 : Int) then
                    if InR .i64 ((2 * ((x24.toNat : Int) - 48)) - 9) then
                      if InR .i64 (v3 + ((2 * ((x24.toNat : Int) - 48)) - 9)) then
                        if InR .i64 ((↑k4 : Int) + 1) then
                          some (Sum.inl ((v3 + ((2 * ((x24.toNat : Int) - 48)) - 9)), (k4 + 1)))
                        else none
                      else none
                    else none
                  else
                    if InR .i64 (v3 + (2 * ((x24.toNat : Int) - 48))) then
                      if InR .i64 ((↑k4 : Int) + 1) then
                        some (Sum.inl ((v3 + (2 * ((x24.toNat : Int) - 48))), (k4 + 1)))
                      else none
                    else none
                else none
              else
                if ((x24.toNat : Int) - 48) > (9 : Int) then
                  if InR .i64 (((x24.toNat : Int) - 48) - 9) then
                    if InR .i64 (v3 + (((x24.toNat : Int) - 48) - 9)) then
                      if InR .i64 ((↑k4 : Int) + 1) then
                        some (Sum.inl ((v3 + (((x24.toNat : Int) - 48) - 9)), (k4 + 1)))
                      else none
                    else none
                  else none
                else
                  if InR .i64 (v3 + ((x24.toNat : Int) - 48)) then
                    if InR .i64 ((↑k4 : Int) + 1) then
                      some (Sum.inl ((v3 + ((x24.toNat : Int) - 48)), (k4 + 1)))
                    else none
                  else none
            else none
          else none
    else
      some (Sum.inr (Sum.inr (v3)))
def tollwayref11_sum_L1_H (s_0 : (List UInt8)) : (Int × Nat) → St := fun (s : (Int × Nat)) => S 40 [(0, .str s_0), (3, .int .i64 s.1), (4, .int .i64 (↑s.2 : Int))] []
theorem tollwayref11_sum_L1_0 (s_0 : (List UInt8)) (v3 : Int) (k4 : Nat) (c23 : (↑k4 : Int) < (↑s_0.length : Int)) (x24 : UInt8) (h25 : s_0[k4]? = some x24) (c26 : (x24.toNat : Int) < (48 : Int)) : Does Tryd.prog GT 0 (bodyAt Tryd.prog 28 [1, 1, 0, 1, 0, 0]) (tollwayref11_sum_L1_H s_0 (v3, k4)) .ret (S 40 [(2, .int .i64 (-1))] []) :=
  Does.of_viewM 0 400 (cs 3 ((.op none .a) :: (.br true) :: (cs 2 ((.op none (.i k4)) :: (.tr (.eqt (.t 14) (.int .u8 (x24.toNat : Int)))) :: (.op none .a) :: (.op none .c) :: (.op (some true) .c) :: (cs 4 [.br true, .op none .c]))))) [] (ps := [((decide ((↑k4 : Int) < (↑s_0.length : Int))) = true), ((↑k4 : Int) = ((k4 : Nat) : Int) ∧ k4 < s_0.length), ((.int .u8 ((List.getD s_0 k4 0).toNat : Int) : AV) = .int .u8 (x24.toNat : Int)), ((decide ((x24.toNat : Int) < (48 : Int))) = true), (true = true)]) (by kernel_rfl) (by kernel_rfl) ⟨(decide_eq_true c23), ⟨rfl, get_lt h25⟩, (getD_u8 h25), (decide_eq_true c26), ok1 rfl⟩
theorem tollwayref11_sum_L1_1 (s_0 : (List UInt8)) (v3 : Int) (k4 : Nat) (c23 : (↑k4 : Int) < (↑s_0.length : Int)) (x24 : UInt8) (h25 : s_0[k4]? = some x24) (c26 : ¬ ((x24.toNat : Int) < (48 : Int))) (c27 : (x24.toNat : Int) > (57 : Int)) : Does Tryd.prog GT 0 (bodyAt Tryd.prog 28 [1, 1, 0, 1, 0, 0]) (tollwayref11_sum_L1_H s_0 (v3, k4)) .ret (S 40 [(2, .int .i64 (-1))] []) :=
  Does.of_viewM 0 400 (cs 3 ((.op none .a) :: (.br true) :: (cs 2 [.op none (.i k4), .tr (.eqt (.t 14) (.int .u8 (x24.toNat : Int))), .op none .a, .op none .c, .op (some false) .c, .op none .c, .op none (.i k4), .tr (.eqt (.t 19) (.int .u8 (x24.toNat : Int))), .op none .a, .op none .c, .br true, .op none .c]))) [] (ps := [((decide ((↑k4 : Int) < (↑s_0.length : Int))) = true), ((↑k4 : Int) = ((k4 : Nat) : Int) ∧ k4 < s_0.length), ((.int .u8 ((List.getD s_0 k4 0).toNat : Int) : AV) = .int .u8 (x24.toNat : Int)), ((decide ((x24.toNat : Int) < (48 : Int))) = false), ((↑k4 : Int) = ((k4 : Nat) : Int) ∧ k4 < s_0.length), ((.int .u8 ((List.getD s_0 k4 0).toNat : Int) : AV) = .int .u8 (x24.toNat : Int)), ((decide ((x24.toNat : Int) > (57 : Int))) = true)]) (by kernel_rfl) (by kernel_rfl) ⟨(decide_eq_true c23), ⟨rfl, get_lt h25⟩, (getD_u8 h25), (decide_eq_false c26), ⟨rfl, get_lt h25⟩, (getD_u8 h25), ok1 (decide_eq_true c27)⟩
theorem tollwayref11_sum_L1_2 (s_0 : (List UInt8)) (v3 : Int) (k4 : Nat) (c23 : (↑k4 : Int) < (↑s_0.length : Int)) (x24 : UInt8) (h25 : s_0[k4]? = some x24) (c26 : ¬ ((x24.toNat : Int) < (48 : Int))) (c27 : ¬ ((x24.toNat : Int) > (57 : Int))) (h28 : InR .u8 ((x24.toNat : Int) - 48)) (h29 : InR .i64 ((x24.toNat : Int) - 48)) (c30 : (Int.tmod (↑k4 : Int) 2) = (0 : Int)) (h31 : InR .i64 (2 * ((x24.toNat : Int) - 48))) (c32 : (2 * ((x24.toNat : Int) - 48)) > (9 : Int)) (h33 : InR .i64 ((2 * ((x24.toNat : Int) - 48)) - 9)) (h34 : InR .i64 (v3 + ((2 * ((x24.toNat : Int) - 48)) - 9))) (h35 : InR .i64 ((↑k4 : Int) + 1)) : Does Tryd.prog GT 0 (bodyAt Tryd.prog 28 [1, 1, 0, 1, 0, 0]) (tollwayref11_sum_L1_H s_0 (v3, k4)) .normal (S 40 [(0, .str s_0), (3, .int .i64 (v3 + ((2 * ((x24.toNat : Int) - 48)) - 9))), (4, .int .i64 ((↑k4 : Int) + 1))] []) :=
  Does.of_viewM 0 400 (cs 3 ((.op none .a) :: (.br true) :: (cs 2 ((.op none (.i k4)) :: (.tr (.eqt (.t 14) (.int .u8 (x24.toNat : Int)))) :: (.op none .a) :: (.op none .c) :: (.op (some false) .c) :: (.op none .c) :: (.op none (.i k4)) :: (.tr (.eqt (.t 19) (.int .u8 (x24.toNat : Int)))) :: (.op none .a) :: (.op none .c) :: (.br false) :: (cs 2 ((.op none (.i k4)) :: (.tr (.eqt (.t 24) (.int .u8 (x24.toNat : Int)))) :: (.op none .w) :: (.op none .w) :: (cs 2 ((.op none .a) :: (.op none .a) :: (.br true) :: (.op none .c) :: (.op none .w) :: (cs 2 ((.op none .a) :: (.br true) :: (.op none .c) :: (.op none .w) :: (cs 3 ((.op none .w) :: (cs 2 [.op none .w, .op none .c]))))))))))))) [] (ps := [((decide ((↑k4 : Int) < (↑s_0.length : Int))) = true), ((↑k4 : Int) = ((k4 : Nat) : Int) ∧ k4 < s_0.length), ((.int .u8 ((List.getD s_0 k4 0).toNat : Int) : AV) = .int .u8 (x24.toNat : Int)), ((decide ((x24.toNat : Int) < (48 : Int))) = false), ((↑k4 : Int) = ((k4 : Nat) : Int) ∧ k4 < s_0.length), ((.int .u8 ((List.getD s_0 k4 0).toNat : Int) : AV) = .int .u8 (x24.toNat : Int)), ((decide ((x24.toNat : Int) > (57 : Int))) = false), ((↑k4 : Int) = ((k4 : Nat) : Int) ∧ k4 < s_0.length), ((.int .u8 ((List.getD s_0 k4 0).toNat : Int) : AV) = .int .u8 (x24.toNat : Int)), (IntKind.min .u8 ≤ ((x24.toNat : Int) - 48) ∧ ((x24.toNat : Int) - 48) ≤ IntKind.max .u8), (IntKind.min .i64 ≤ ((x24.toNat : Int) - 48) ∧ ((x24.toNat : Int) - 48) ≤ IntKind.max .i64), (2 ≠ (0 : Int)), (((Int.tmod (↑k4 : Int) 2) == (0 : Int)) = true), (IntKind.min .i64 ≤ (2 * ((x24.toNat : Int) - 48)) ∧ (2 * ((x24.toNat : Int) - 48)) ≤ IntKind.max .i64), ((decide ((2 * ((x24.toNat : Int) - 48)) > (9 : Int))) = true), (IntKind.min .i64 ≤ ((2 * ((x24.toNat : Int) - 48)) - 9) ∧ ((2 * ((x24.toNat : Int) - 48)) - 9) ≤ IntKind.max .i64), (IntKind.min .i64 ≤ (v3 + ((2 * ((x24.toNat : Int) - 48)) - 9)) ∧ (v3 + ((2 * ((x24.toNat : Int) - 48)) - 9)) ≤ IntKind.max .i64), (IntKind.min .i64 ≤ ((↑k4 : Int) + 1) ∧ ((↑k4 : Int) + 1) ≤ IntKind.max .i64)]) (by kernel_rfl) (by kernel_rfl) ⟨(decide_eq_true c23), ⟨rfl, get_lt h25⟩, (getD_u8 h25), (decide_eq_false c26), ⟨rfl, get_lt h25⟩, (getD_u8 h25), (decide_eq_false c27), ⟨rfl, get_lt h25⟩, (getD_u8 h25), h28, h29, (by decide), (beq_t c30), h31, (decide_eq_true c32), h33, h34, ok1 h35⟩
theorem tollwayref11_sum_L1_3 (s_0 : (List UInt8)) (v3 : Int) (k4 : Nat) (c23 : (↑k4 : Int) < (↑s_0.length : Int)) (x24 : UInt8) (h25 : s_0[k4]? = some x24) (c26 : ¬ ((x24.toNat : Int) < (48 : Int))) (c27 : ¬ ((x24.toNat : Int) > (57 : Int))) (h28 : InR .u8 ((x24.toNat : Int) - 48)) (h29 : InR .i64 ((x24.toNat : Int) - 48)) (c30 : (Int.tmod (↑k4 : Int) 2) = (0 : Int)) (h31 : InR .i64 (2 * ((x24.toNat : Int) - 48))) (c32 : ¬ ((2 * ((x24.toNat : Int) - 48)) > (9 : Int))) (h36 : InR .i64 (v3 + (2 * ((x24.toNat : Int) - 48)))) (h37 : InR .i64 ((↑k4 : Int) + 1)) : Does Tryd.prog GT 0 (bodyAt Tryd.prog 28 [1, 1, 0, 1, 0, 0]) (tollwayref11_sum_L1_H s_0 (v3, k4)) .normal (S 40 [(0, .str s_0), (3, .int .i64 (v3 + (2 * ((x24.toNat : Int) - 48)))), (4, .int .i64 ((↑k4 : Int) + 1))] []) :=
  Does.of_viewM 0 400 (cs 3 ((.op none .a) :: (.br true) :: (cs 2 ((.op none (.i k4)) :: (.tr (.eqt (.t 14) (.int .u8 (x24.toNat : Int)))) :: (.op none .a) :: (.op none .c) :: (.op (some false) .c) :: (.op none .c) :: (.op none (.i k4)) :: (.tr (.eqt (.t 19) (.int .u8 (x24.toNat : Int)))) :: (.op none .a) :: (.op none .c) :: (.br false) :: (cs 2 ((.op none (.i k4)) :: (.tr (.eqt (.t 24) (.int .u8 (x24.toNat : Int)))) :: (.op none .w) :: (.op none .w) :: (cs 2 ((.op none .a) :: (.op none .a) :: (.br true) :: (.op none .c) :: (.op none .w) :: (cs 2 ((.op none .a) :: (.br false) :: (cs 2 ((.op none .w) :: (cs 2 [.op none .w, .op none .c]))))))))))))) [] (ps := [((decide ((↑k4 : Int) < (↑s_0.length : Int))) = true), ((↑k4 : Int) = ((k4 : Nat) : Int) ∧ k4 < s_0.length), ((.int .u8 ((List.getD s_0 k4 0).toNat : Int) : AV) = .int .u8 (x24.toNat : Int)), ((decide ((x24.toNat : Int) < (48 : Int))) = false), ((↑k4 : Int) = ((k4 : Nat) : Int) ∧ k4 < s_0.length), ((.int .u8 ((List.getD s_0 k4 0).toNat : Int) : AV) = .int .u8 (x24.toNat : Int)), ((decide ((x24.toNat : Int) > (57 : Int))) = false), ((↑k4 : Int) = ((k4 : Nat) : Int) ∧ k4 < s_0.length), ((.int .u8 ((List.getD s_0 k4 0).toNat : Int) : AV) = .int .u8 (x24.toNat : Int)), (IntKind.min .u8 ≤ ((x24.toNat : Int) - 48) ∧ ((x24.toNat : Int) - 48) ≤ IntKind.max .u8), (IntKind.min .i64 ≤ ((x24.toNat : Int) - 48) ∧ ((x24.toNat : Int) - 48) ≤ IntKind.max .i64), (2 ≠ (0 : Int)), (((Int.tmod (↑k4 : Int) 2) == (0 : Int)) = true), (IntKind.min .i64 ≤ (2 * ((x24.toNat : Int) - 48)) ∧ (2 * ((x24.toNat : Int) - 48)) ≤ IntKind.max .i64), ((decide ((2 * ((x24.toNat : Int) - 48)) > (9 : Int))) = false), (IntKind.min .i64 ≤ (v3 + (2 * ((x24.toNat : Int) - 48))) ∧ (v3 + (2 * ((x24.toNat : Int) - 48))) ≤ IntKind.max .i64), (IntKind.min .i64 ≤ ((↑k4 : Int) + 1) ∧ ((↑k4 : Int) + 1) ≤ IntKind.max .i64)]) (by kernel_rfl) (by kernel_rfl) ⟨(decide_eq_true c23), ⟨rfl, get_lt h25⟩, (getD_u8 h25), (decide_eq_false c26), ⟨rfl, get_lt h25⟩, (getD_u8 h25), (decide_eq_false c27), ⟨rfl, get_lt h25⟩, (getD_u8 h25), h28, h29, (by decide), (beq_t c30), h31, (decide_eq_false c32), h36, ok1 h37⟩
theorem tollwayref11_sum_L1_4 (s_0 : (List UInt8)) (v3 : Int) (k4 : Nat) (c23 : (↑k4 : Int) < (↑s_0.length : Int)) (x24 : UInt8) (h25 : s_0[k4]? = some x24) (c26 : ¬ ((x24.toNat : Int) < (48 : Int))) (c27 : ¬ ((x24.toNat : Int) > (57 : Int))) (h28 : InR .u8 ((x24.toNat : Int) - 48)) (h29 : InR .i64 ((x24.toNat : Int) - 48)) (c30 : ¬ ((Int.tmod (↑k4 : Int) 2) = (0 : Int))) (c38 : ((x24.toNat : Int) - 48) > (9 : Int)) (h39 : InR .i64 (((x24.toNat : Int) - 48) - 9)) (h40 : InR .i64 (v3 + (((x24.toNat : Int) - 48) - 9))) (h41 : InR .i64 ((↑k4 : Int) + 1)) : Does Tryd.prog GT 0 (bodyAt Tryd.prog 28 [1, 1, 0, 1, 0, 0]) (tollwayref11_sum_L1_H s_0 (v3, k4)) .normal (S 40 [(0, .str s_0), (3, .int .i64 (v3 + (((x24.toNat : Int) - 48) - 9))), (4, .int .i64 ((↑k4 : Int) + 1))] []) :=
  Does.of_viewM 0 400 (cs 3 ((.op none .a) :: (.br true) :: (cs 2 ((.op none (.i k4)) :: (.tr (.eqt (.t 14) (.int .u8 (x24.toNat : Int)))) :: (.op none .a) :: (.op none .c) :: (.op (some false) .c) :: (.op none .c) :: (.op none (.i k4)) :: (.tr (.eqt (.t 19) (.int .u8 (x24.toNat : Int)))) :: (.op none .a) :: (.op none .c) :: (.br false) :: (cs 2 ((.op none (.i k4)) :: (.tr (.eqt (.t 24) (.int .u8 (x24.toNat : Int)))) :: (.op none .w) :: (.op none .w) :: (cs 2 ((.op none .a) :: (.op none .a) :: (.br false) :: (.op none .c) :: (.op none .a) :: (.br true) :: (.op none .c) :: (.op none .w) :: (cs 3 ((.op none .w) :: (cs 2 [.op none .w, .op none .c]))))))))))) [] (ps := [((decide ((↑k4 : Int) < (↑s_0.length : Int))) = true), ((↑k4 : Int) = ((k4 : Nat) : Int) ∧ k4 < s_0.length), ((.int .u8 ((List.getD s_0 k4 0).toNat : Int) : AV) = .int .u8 (x24.toNat : Int)), ((decide ((x24.toNat : Int) < (48 : Int))) = false), ((↑k4 : Int) = ((k4 : Nat) : Int) ∧ k4 < s_0.length), ((.int .u8 ((List.getD s_0 k4 0).toNat : Int) : AV) = .int .u8 (x24.toNat : Int)), ((decide ((x24.toNat : Int) > (57 : Int))) = false), ((↑k4 : Int) = ((k4 : Nat) : Int) ∧ k4 < s_0.length), ((.int .u8 ((List.getD s_0 k4 0).toNat : Int) : AV) = .int .u8 (x24.toNat : Int)), (IntKind.min .u8 ≤ ((x24.toNat : Int) - 48) ∧ ((x24.toNat : Int) - 48) ≤ IntKind.max .u8), (IntKind.min .i64 ≤ ((x24.toNat : Int) - 48) ∧ ((x24.toNat : Int) - 48) ≤ IntKind.max .i64), (2 ≠ (0 : Int)), (((Int.tmod (↑k4 : Int) 2) == (0 : Int)) = false), ((decide (((x24.toNat : Int) - 48) > (9 : Int))) = true), (IntKind.min .i64 ≤ (((x24.toNat : Int) - 48) - 9) ∧ (((x24.toNat : Int) - 48) - 9) ≤ IntKind.max .i64), (IntKind.min .i64 ≤ (v3 + (((x24.toNat : Int) - 48) - 9)) ∧ (v3 + (((x24.toNat : Int) - 48) - 9)) ≤ IntKind.max .i64), (IntKind.min .i64 ≤ ((↑k4 : Int) + 1) ∧ ((↑k4 : Int) + 1) ≤ IntKind.max .i64)]) (by kernel_rfl) (by kernel_rfl) ⟨(decide_eq_true c23), ⟨rfl, get_lt h25⟩, (getD_u8 h25), (decide_eq_false c26), ⟨rfl, get_lt h25⟩, (getD_u8 h25), (decide_eq_false c27), ⟨rfl, get_lt h25⟩, (getD_u8 h25), h28, h29, (by decide), (beq_f c30), (decide_eq_true c38), h39, h40, ok1 h41⟩
theorem tollwayref11_sum_L1_5 (s_0 : (List UInt8)) (v3 : Int) (k4 : Nat) (c23 : (↑k4 : Int) < (↑s_0.length : Int)) (x24 : UInt8) (h25 : s_0[k4]? = some x24) (c26 : ¬ ((x24.toNat : Int) < (48 : Int))) (c27 : ¬ ((x24.toNat : Int) > (57 : Int))) (h28 : InR .u8 ((x24.toNat : Int) - 48)) (h29 : InR .i64 ((x24.toNat : Int) - 48)) (c30 : ¬ ((Int.tmod (↑k4 : Int) 2) = (0 : Int))) (c38 : ¬ (((x24.toNat : Int) - 48) > (9 : Int))) (h42 : InR .i64 (v3 + ((x24.toNat : Int) - 48))) (h43 : InR .i64 ((↑k4 : Int) + 1)) : Does Tryd.prog GT 0 (bodyAt Tryd.prog 28 [1, 1, 0, 1, 0, 0]) (tollwayref11_sum_L1_H s_0 (v3, k4)) .normal (S 40 [(0, .str s_0), (3, .int .i64 (v3 + ((x24.toNat : Int) - 48))), (4, .int .i64 ((↑k4 : Int) + 1))] []) :=
  Does.of_viewM 0 400 (cs 3 ((.op none .a) :: (.br true) :: (cs 2 ((.op none (.i k4)) :: (.tr (.eqt (.t 14) (.int .u8 (x24.toNat : Int)))) :: (.op none .a) :: (.op none .c) :: (.op (some false) .c) :: (.op none .c) :: (.op none (.i k4)) :: (.tr (.eqt (.t 19) (.int .u8 (x24.toNat : Int)))) :: (.op none .a) :: (.op none .c) :: (.br false) :: (cs 2 ((.op none (.i k4)) :: (.tr (.eqt (.t 24) (.int .u8 (x24.toNat : Int)))) :: (.op none .w) :: (.op none .w) :: (cs 2 ((.op none .a) :: (.op none .a) :: (.br false) :: (.op none .c) :: (.op none .a) :: (.br false) :: (cs 2 ((.op none .w) :: (cs 2 [.op none .w, .op none .c]))))))))))) [] (ps := [((decide ((↑k4 : Int) < (↑s_0.length : Int))) = true), ((↑k4 : Int) = ((k4 : Nat) : Int) ∧ k4 < s_0.length), ((.int .u8 ((List.getD s_0 k4 0).toNat : Int) : AV) = .int .u8 (x24.toNat : Int)), ((decide ((x24.toNat : Int) < (48 : Int))) = false), ((↑k4 : Int) = ((k4 : Nat) : Int) ∧ k4 < s_0.length), ((.int .u8 ((List.getD s_0 k4 0).toNat : Int) : AV) = .int .u8 (x24.toNat : Int)), ((decide ((x24.toNat : Int) > (57 : Int))) = false), ((↑k4 : Int) = ((k4 : Nat) : Int) ∧ k4 < s_0.length), ((.int .u8 ((List.getD s_0 k4 0).toNat : Int) : AV) = .int .u8 (x24.toNat : Int)), (IntKind.min .u8 ≤ ((x24.toNat : Int) - 48) ∧ ((x24.toNat : Int) - 48) ≤ IntKind.max .u8), (IntKind.min .i64 ≤ ((x24.toNat : Int) - 48) ∧ ((x24.toNat : Int) - 48) ≤ IntKind.max .i64), (2 ≠ (0 : Int)), (((Int.tmod (↑k4 : Int) 2) == (0 : Int)) = false), ((decide (((x24.toNat : Int) - 48) > (9 : Int))) = false), (IntKind.min .i64 ≤ (v3 + ((x24.toNat : Int) - 48)) ∧ (v3 + ((x24.toNat : Int) - 48)) ≤ IntKind.max .i64), (IntKind.min .i64 ≤ ((↑k4 : Int) + 1) ∧ ((↑k4 : Int) + 1) ≤ IntKind.max .i64)]) (by kernel_rfl) (by kernel_rfl) ⟨(decide_eq_true c23), ⟨rfl, get_lt h25⟩, (getD_u8 h25), (decide_eq_false c26), ⟨rfl, get_lt h25⟩, (getD_u8 h25), (decide_eq_false c27), ⟨rfl, get_lt h25⟩, (getD_u8 h25), h28, h29, (by decide), (beq_f c30), (decide_eq_false c38), h42, ok1 h43⟩
theorem tollwayref11_sum_L1_6 (s_0 : (List UInt8)) (v3 : Int) (k4 : Nat) (c23 : ¬ ((↑k4 : Int) < (↑s_0.length : Int))) : Does Tryd.prog GT 0 (bodyAt Tryd.prog 28 [1, 1, 0, 1, 0, 0]) (tollwayref11_sum_L1_H s_0 (v3, k4)) (.exit 0) (S 40 [(3, .int .i64 v3)] []) :=
  Does.of_viewM 0 400 (cs 3 [.op none .a, .br false]) [] (ps := [((decide ((↑k4 : Int) < (↑s_0.length : Int))) = false)]) (by kernel_rfl) (by kernel_rfl) (ok1 (decide_eq_false c23))
def tollwayref11_sum_L1_X (s_0 : (List UInt8)) : (Unit ⊕ Int) → AEx := fun q => match q with | Sum.inl o => .ret | Sum.inr (o) => (.exit 0)
def tollwayref11_sum_L1_E (s_0 : (List UInt8)) : (Unit ⊕ Int) → St := fun q => match q with | Sum.inl o => S 40 [(2, .int .i64 (-1))] [] | Sum.inr (o) => S 40 [(3, .int .i64 o)] []
theorem tollwayref11_sum_L1_does (s_0 : (List UInt8)) {s : (Int × Nat)} {r : Unit ⊕ Int} (h : lp (tollwayref11_sum_L1_step s_0) s = some r) : Does Tryd.prog GT 0 (.loop (bodyAt Tryd.prog 28 [1, 1, 0, 1, 0, 0])) (tollwayref11_sum_L1_H s_0 s) (tollwayref11_sum_L1_X s_0 r) (tollwayref11_sum_L1_E s_0 r) := by
  refine Does.lp (H := tollwayref11_sum_L1_H s_0) (X := tollwayref11_sum_L1_X s_0) (E := tollwayref11_sum_L1_E s_0) (fun s s2 h => ?_) (fun s r h => ?_) h
  · obtain ⟨v3, k4⟩ := s
    unfold tollwayref11_sum_L1_step at h
    try dsimp only at h
    rcases ite_some h with ⟨c23, h⟩ | ⟨c23, h⟩
    · obtain ⟨x24, h25, h⟩ := bind_some h
      rcases ite_some h with ⟨c26, h⟩ | ⟨c26, h⟩
      · simp at h
      · rcases ite_some h with ⟨c27, h⟩ | ⟨c27, h⟩
        · simp at h
        · obtain ⟨h28, h⟩ := guard_some h
          obtain ⟨h29, h⟩ := guard_some h
          rcases ite_some h with ⟨c30, h⟩ | ⟨c30, h⟩
          · obtain ⟨h31, h⟩ := guard_some h
            rcases ite_some h with ⟨c32, h⟩ | ⟨c32, h⟩
            · obtain ⟨h33, h⟩ := guard_some h
              obtain ⟨h34, h⟩ := guard_some h
              obtain ⟨h35, h⟩ := guard_some h
              simp only [Option.some.injEq, Sum.inl.injEq] at h
              subst h
              have hq := tollwayref11_sum_L1_2 s_0 v3 k4 c23 x24 h25 c26 c27 h28 h29 c30 h31 c32 h33 h34 h35
              first | exact hq | exact Eq.mp (by simp only [tollwayref11_sum_L1_H, List.length_set] <;> rfl) hq
            · obtain ⟨h36, h⟩ := guard_some h
              obtain ⟨h37, h⟩ := guard_some h
              simp only [Option.some.injEq, Sum.inl.injEq] at h
              subst h
              have hq := tollwayref11_sum_L1_3 s_0 v3 k4 c23 x24 h25 c26 c27 h28 h29 c30 h31 c32 h36 h37
              first | exact hq | exact Eq.mp (by simp only [tollwayref11_sum_L1_H, List.length_set] <;> rfl) hq
          · rcases ite_some h with ⟨c38, h⟩ | ⟨c38, h⟩
            · obtain ⟨h39, h⟩ := guard_some h
              obtain ⟨h40, h⟩ := guard_some h
              obtain ⟨h41, h⟩ := guard_some h
              simp only [Option.some.injEq, Sum.inl.injEq] at h
              subst h
              have hq := tollwayref11_sum_L1_4 s_0 v3 k4 c23 x24 h25 c26 c27 h28 h29 c30 c38 h39 h40 h41
              first | exact hq | exact Eq.mp (by simp only [tollwayref11_sum_L1_H, List.length_set] <;> rfl) hq
            · obtain ⟨h42, h⟩ := guard_some h
              obtain ⟨h43, h⟩ := guard_some h
              simp only [Option.some.injEq, Sum.inl.injEq] at h
              subst h
              have hq := tollwayref11_sum_L1_5 s_0 v3 k4 c23 x24 h25 c26 c27 h28 h29 c30 c38 h42 h43
              first | exact hq | exact Eq.mp (by simp only [tollwayref11_sum_L1_H, List.length_set] <;> rfl) hq
    · simp at h
  · obtain ⟨v3, k4⟩ := s
    unfold tollwayref11_sum_L1_step at h
    try dsimp only at h
    rcases ite_some h with ⟨c23, h⟩ | ⟨c23, h⟩
    · obtain ⟨x24, h25, h⟩ := bind_some h
      rcases ite_some h with ⟨c26, h⟩ | ⟨c26, h⟩
      · simp only [Option.some.injEq, Sum.inr.injEq] at h
        subst h
        exact ⟨tollwayref11_sum_L1_0 s_0 v3 k4 c23 x24 h25 c26, by intro q; cases q⟩
      · rcases ite_some h with ⟨c27, h⟩ | ⟨c27, h⟩
        · simp only [Option.some.injEq, Sum.inr.injEq] at h
          subst h
          exact ⟨tollwayref11_sum_L1_1 s_0 v3 k4 c23 x24 h25 c26 c27, by intro q; cases q⟩
        · obtain ⟨h28, h⟩ := guard_some h
          obtain ⟨h29, h⟩ := guard_some h
          rcases ite_some h with ⟨c30, h⟩ | ⟨c30, h⟩
          · obtain ⟨h31, h⟩ := guard_some h
            rcases ite_some h with ⟨c32, h⟩ | ⟨c32, h⟩
            · obtain ⟨h33, h⟩ := guard_some h
              obtain ⟨h34, h⟩ := guard_some h
              obtain ⟨h35, h⟩ := guard_some h
              simp at h
            · obtain ⟨h36, h⟩ := guard_some h
              obtain ⟨h37, h⟩ := guard_some h
              simp at h
          · rcases ite_some h with ⟨c38, h⟩ | ⟨c38, h⟩
            · obtain ⟨h39, h⟩ := guard_some h
              obtain ⟨h40, h⟩ := guard_some h
              obtain ⟨h41, h⟩ := guard_some h
              simp at h
            · obtain ⟨h42, h⟩ := guard_some h
              obtain ⟨h43, h⟩ := guard_some h
              simp at h
    · simp only [Option.some.injEq, Sum.inr.injEq] at h
      subst h
      exact ⟨tollwayref11_sum_L1_6 s_0 v3 k4 c23, by intro q; cases q⟩
noncomputable def tollwayref11_sum (s_0 : (List UInt8)) : Option Int :=
  (lp (tollwayref11_sum_L1_step s_0) ((0 : Int), (0 : Nat))).bind fun qq => match qq with
  | Sum.inl o1 =>
    some (-1)
  | Sum.inr (o1) =>
    some o1
theorem tollwayref11_sum_0 (s_0 : (List UInt8)) (o1 : Unit) (hl1 : lp (tollwayref11_sum_L1_step s_0) ((0 : Int), (0 : Nat)) = some (Sum.inl o1)) : Ret Tryd.prog GT 28 [.str s_0] (.int .i64 (-1)) [] :=
  Ret.of_view 400 (cs 3 [.fcut 0 .ret [(2, .int .i64 (-1))] [] [] [(0, .str s_0), (3, .int .i64 (0 : Int)), (4, .int .i64 (↑(0 : Nat) : Int))] []]) [] (ps := [((.str s_0 : AV) = .str s_0), ((.int .i64 0 : AV) = .int .i64 (0 : Int)), ((.int .i64 0 : AV) = .int .i64 (↑(0 : Nat) : Int)), (Does Tryd.prog GT 0 (.loop (bodyAt Tryd.prog 28 [1, 1, 0, 1, 0, 0])) (S 40 [(0, .str s_0), (3, .int .i64 (0 : Int)), (4, .int .i64 (↑(0 : Nat) : Int))] []) .ret (S 40 [(2, .int .i64 (-1))] []))]) (by kernel_rfl) (by kernel_rfl) ⟨rfl, rfl, rfl, ok1 (tollwayref11_sum_L1_does s_0 hl1)⟩
theorem tollwayref11_sum_1 (s_0 : (List UInt8)) (o1 : Int) (hl1 : lp (tollwayref11_sum_L1_step s_0) ((0 : Int), (0 : Nat)) = some (Sum.inr (o1))) : Ret Tryd.prog GT 28 [.str s_0] (.int .i64 o1) [] :=
  Ret.of_view 400 (cs 3 ((.fcut 0 (.exit 0) [(3, .int .i64 o1)] [] [] [(0, .str s_0), (3, .int .i64 (0 : Int)), (4, .int .i64 (↑(0 : Nat) : Int))] []) :: (cs 2 []))) [] (ps := [((.str s_0 : AV) = .str s_0), ((.int .i64 0 : AV) = .int .i64 (0 : Int)), ((.int .i64 0 : AV) = .int .i64 (↑(0 : Nat) : Int)), (Does Tryd.prog GT 0 (.loop (bodyAt Tryd.prog 28 [1, 1, 0, 1, 0, 0])) (S 40 [(0, .str s_0), (3, .int .i64 (0 : Int)), (4, .int .i64 (↑(0 : Nat) : Int))] []) (.exit 0) (S 40 [(3, .int .i64 o1)] []))]) (by kernel_rfl) (by kernel_rfl) ⟨rfl, rfl, rfl, ok1 (tollwayref11_sum_L1_does s_0 hl1)⟩
theorem tollwayref11_sum_ret (s_0 : (List UInt8)) (r : Int) (h : tollwayref11_sum s_0 = some r) : Ret Tryd.prog GT 28 [.str s_0] (.int .i64 r) [] := by
  unfold tollwayref11_sum at h
  obtain ⟨qq, hl1, h⟩ := bind_some h
  rcases qq with o1 | o1
  · dsimp only at h
    simp only [Option.some.injEq] at h
    subst h
    exact tollwayref11_sum_0 s_0 o1 hl1
  · dsimp only at h
    simp only [Option.some.injEq] at h
    subst h
    exact tollwayref11_sum_1 s_0 o1 hl1
noncomputable def tollwayref11_Check (s_0 : (List UInt8)) : Option Int :=
  if (↑s_0.length : Int) = (12 : Int) then
    (tollwayref11_sum s_0).bind fun r2 =>
    if r2 < (0 : Int) then
      some 18
    else
      if (Int.tmod r2 10) = (0 : Int) then
        some 0
      else
        some 18
  else
    some 18
theorem tollwayref11_Check_0 (s_0 : (List UInt8)) (c1 : (↑s_0.length : Int) = (12 : Int)) (r2 : Int) (h3 : tollwayref11_sum s_0 = some r2) (c4 : r2 < (0 : Int)) : Ret Tryd.prog GT 23 [.str s_0] (.int .i64 18) [] :=
  Ret.of_view 400 (cs 3 ((.op none .a) :: (.br false) :: (.op none .c) :: (.ret none [.str s_0] (.int .i64 r2) []) :: (cs 2 ((.op none .a) :: (.op none .c) :: (.op (some true) .c) :: (cs 3 [.br true, .op none .c]))))) [] (ps := [((!((↑s_0.length : Int) == (12 : Int))) = false), ((.str s_0 : AV) = .str s_0), (Ret Tryd.prog GT 28 [.str s_0] (.int .i64 r2) []), ((decide (r2 < (0 : Int))) = true), (true = true)]) (by kernel_rfl) (by kernel_rfl) ⟨(not_f (beq_t c1)), rfl, (tollwayref11_sum_ret s_0 r2 h3), (decide_eq_true c4), ok1 rfl⟩
theorem tollwayref11_Check_1 (s_0 : (List UInt8)) (c1 : (↑s_0.length : Int) = (12 : Int)) (r2 : Int) (h3 : tollwayref11_sum s_0 = some r2) (c4 : ¬ (r2 < (0 : Int))) (c5 : (Int.tmod r2 10) = (0 : Int)) : Ret Tryd.prog GT 23 [.str s_0] (.int .i64 0) [] :=
  Ret.of_view 400 (cs 3 ((.op none .a) :: (.br false) :: (.op none .c) :: (.ret none [.str s_0] (.int .i64 r2) []) :: (cs 2 [.op none .a, .op none .c, .op (some false) .c, .op none .a, .op none .a, .op none .c, .br false, .op none .c]))) [] (ps := [((!((↑s_0.length : Int) == (12 : Int))) = false), ((.str s_0 : AV) = .str s_0), (Ret Tryd.prog GT 28 [.str s_0] (.int .i64 r2) []), ((decide (r2 < (0 : Int))) = false), (10 ≠ (0 : Int)), ((!((Int.tmod r2 10) == (0 : Int))) = false)]) (by kernel_rfl) (by kernel_rfl) ⟨(not_f (beq_t c1)), rfl, (tollwayref11_sum_ret s_0 r2 h3), (decide_eq_false c4), (by decide), ok1 (not_f (beq_t c5))⟩
theorem tollwayref11_Check_2 (s_0 : (List UInt8)) (c1 : (↑s_0.length : Int) = (12 : Int)) (r2 : Int) (h3 : tollwayref11_sum s_0 = some r2) (c4 : ¬ (r2 < (0 : Int))) (c5 : ¬ ((Int.tmod r2 10) = (0 : Int))) : Ret Tryd.prog GT 23 [.str s_0] (.int .i64 18) [] :=
  Ret.of_view 400 (cs 3 ((.op none .a) :: (.br false) :: (.op none .c) :: (.ret none [.str s_0] (.int .i64 r2) []) :: (cs 2 [.op none .a, .op none .c, .op (some false) .c, .op none .a, .op none .a, .op none .c, .br true, .op none .c]))) [] (ps := [((!((↑s_0.length : Int) == (12 : Int))) = false), ((.str s_0 : AV) = .str s_0), (Ret Tryd.prog GT 28 [.str s_0] (.int .i64 r2) []), ((decide (r2 < (0 : Int))) = false), (10 ≠ (0 : Int)), ((!((Int.tmod r2 10) == (0 : Int))) = true)]) (by kernel_rfl) (by kernel_rfl) ⟨(not_f (beq_t c1)), rfl, (tollwayref11_sum_ret s_0 r2 h3), (decide_eq_false c4), (by decide), ok1 (not_t (beq_f c5))⟩
theorem tollwayref11_Check_3 (s_0 : (List UInt8)) (c1 : ¬ ((↑s_0.length : Int) = (12 : Int))) : Ret Tryd.prog GT 23 [.str s_0] (.int .i64 18) [] :=
  Ret.of_view 400 (cs 3 [.op none .a, .br true, .op none .c]) [] (ps := [((!((↑s_0.length : Int) == (12 : Int))) = true)]) (by kernel_rfl) (by kernel_rfl) (ok1 (not_t (beq_f c1)))
theorem tollwayref11_Check_ret (s_0 : (List UInt8)) (r : Int) (h : tollwayref11_Check s_0 = some r) : Ret Tryd.prog GT 23 [.str s_0] (.int .i64 r) [] := by
  unfold tollwayref11_Check at h
  rcases ite_some h with ⟨c1, h⟩ | ⟨c1, h⟩
  · obtain ⟨r2, h3, h⟩ := bind_some h
    rcases ite_some h with ⟨c4, h⟩ | ⟨c4, h⟩
    · simp only [Option.some.injEq] at h
      subst h
      exact tollwayref11_Check_0 s_0 c1 r2 h3 c4
    · rcases ite_some h with ⟨c5, h⟩ | ⟨c5, h⟩
      · simp only [Option.some.injEq] at h
        subst h
        exact tollwayref11_Check_1 s_0 c1 r2 h3 c4 c5
      · simp only [Option.some.injEq] at h
        subst h
        exact tollwayref11_Check_2 s_0 c1 r2 h3 c4 c5
  · simp only [Option.some.injEq] at h
    subst h
    exact tollwayref11_Check_3 s_0 c1
noncomputable def tollwayref11_digits_L1_step (many_1 : Int) : (Int × (List UInt8) × Nat) → Option ((Int × (List UInt8) × Nat) ⊕ (List UInt8))
  | (v0, v5, k6) =>
    if (↑k6 : Int) < many_1 then
      if InR .i64 ((Int.tmod v0 10) + 1) then
        if (0 : Int) ≤ (Int.tmod v0 10) then
          if (0 : Int) ≤ ((Int.tmod v0 10) + 1) then
            if (Int.toNat (Int.tmod v0 10)) ≤ (Int.toNat ((Int.tmod v0 10) + 1)) then
              if (Int.toNat ((Int.tmod v0 10) + 1)) ≤ 10 then
                (some ((List.drop (Int.toNat (Int.tmod v0 10)) (List.take (Int.toNat ((Int.tmod v0 10) + 1)) ([48, 49, 50, 51, 52, 53, 54, 55, 56, 57] : List UInt8))))).bind fun s19 =>
                if s19.length + v5.length ≤ 9223372036854775807 then
                  if InR .i64 (Int.tdiv v0 10) then
                    if InR .i64 ((↑k6 : Int) + 1) then
                      some (Sum.inl ((Int.tdiv v0 10), s19 ++ v5, (k6 + 1)))
                    else none
                  else none
                else none
              else none
            else none
          else none
        else none
      else none
    else
      some (Sum.inr v5)
def tollwayref11_digits_L1_H (many_1 : Int) : (Int × (List UInt8) × Nat) → St := fun (s : (Int × (List UInt8) × Nat)) => S 24 [(0, .int .i64 s.1), (1, .int .i64 many_1), (5, .str s.2.1), (6, .int .i64 (↑s.2.2 : Int))] []
theorem tollwayref11_digits_L1_0 (many_1 : Int) (v0 : Int) (v5 : (List UInt8)) (k6 : Nat) (c13 : (↑k6 : Int) < many_1) (h14 : InR .i64 ((Int.tmod v0 10) + 1)) (h15 : (0 : Int) ≤ (Int.tmod v0 10)) (h16 : (0 : Int) ≤ ((Int.tmod v0 10) + 1)) (h17 : (Int.toNat (Int.tmod v0 10)) ≤ (Int.toNat ((Int.tmod v0 10) + 1))) (h18 : (Int.toNat ((Int.tmod v0 10) + 1)) ≤ 10) (s19 : (List UInt8)) (h20 : some ((List.drop (Int.toNat (Int.tmod v0 10)) (List.take (Int.toNat ((Int.tmod v0 10) + 1)) ([48, 49, 50, 51, 52, 53, 54, 55, 56, 57] : List UInt8)))) = some s19) (h21 : s19.length + v5.length ≤ 9223372036854775807) (h22 : InR .i64 (Int.tdiv v0 10)) (h23 : InR .i64 ((↑k6 : Int) + 1)) : Does Tryd.prog GT 0 (bodyAt Tryd.prog 29 [1, 1, 0, 1, 0, 0]) (tollwayref11_digits_L1_H many_1 (v0, v5, k6)) .normal (S 24 [(0, .int .i64 (Int.tdiv v0 10)), (1, .int .i64 many_1), (5, .str (s19 ++ v5)), (6, .int .i64 ((↑k6 : Int) + 1))] []) :=
  Does.of_viewM 0 400 (cs 2 ((.op none .a) :: (.br true) :: (.op none .c) :: (.op none .a) :: (cs 3 ((.op none .w) :: (.op none (.s (Int.toNat (Int.tmod v0 10)) (Int.toNat ((Int.tmod v0 10) + 1)))) :: (.tr (.eqt (.t 18) (.str s19))) :: (.op none .c) :: (.op none .a) :: (cs 2 ((.op none .w) :: (cs 2 [.op none .w, .op none .c]))))))) [] (ps := [((decide ((↑k6 : Int) < many_1)) = true), (10 ≠ (0 : Int)), (IntKind.min .i64 ≤ ((Int.tmod v0 10) + 1) ∧ ((Int.tmod v0 10) + 1) ≤ IntKind.max .i64), (((Int.tmod v0 10) + 1) = (((Int.toNat ((Int.tmod v0 10) + 1)) : Nat) : Int)), ((Int.tmod v0 10) = (((Int.toNat (Int.tmod v0 10)) : Nat) : Int)), ((Int.toNat (Int.tmod v0 10)) ≤ (Int.toNat ((Int.tmod v0 10) + 1)) ∧ (Int.toNat ((Int.tmod v0 10) + 1)) ≤ 10), ((.str (List.drop (Int.toNat (Int.tmod v0 10)) (List.take (Int.toNat ((Int.tmod v0 10) + 1)) ([48, 49, 50, 51, 52, 53, 54, 55, 56, 57] : List UInt8))) : AV) = .str s19), (s19.length + v5.length ≤ 9223372036854775807), (10 ≠ (0 : Int)), (IntKind.min .i64 ≤ (Int.tdiv v0 10) ∧ (Int.tdiv v0 10) ≤ IntKind.max .i64), (IntKind.min .i64 ≤ ((↑k6 : Int) + 1) ∧ ((↑k6 : Int) + 1) ≤ IntKind.max .i64)]) (by kernel_rfl) (by kernel_rfl) ⟨(decide_eq_true c13), (by decide), h14, (Int.toNat_of_nonneg h16).symm, (Int.toNat_of_nonneg h15).symm, ⟨h17, h18⟩, (congrArg _ (Option.some.inj h20)), h21, (by decide), h22, ok1 h23⟩
theorem tollwayref11_digits_L1_1 (many_1 : Int) (v0 : Int) (v5 : (List UInt8)) (k6 : Nat) (c13 : ¬ ((↑k6 : Int) < many_1)) : Does Tryd.prog GT 0 (bodyAt Tryd.prog 29 [1, 1, 0, 1, 0, 0]) (tollwayref11_digits_L1_H many_1 (v0, v5, k6)) (.exit 0) (S 24 [(5, .str v5)] []) :=
  Does.of_viewM 0 400 (cs 2 [.op none .a, .br false]) [] (ps := [((decide ((↑k6 : Int) < many_1)) = false)]) (by kernel_rfl) (by kernel_rfl) (ok1 (decide_eq_false c13))
def tollwayref11_digits_L1_X (many_1 : Int) : (List UInt8) → AEx := fun o => (.exit 0)
def tollwayref11_digits_L1_E (many_1 : Int) : (List UInt8) → St := fun o => S 24 [(5, .str o)] []
theorem tollwayref11_digits_L1_does (many_1 : Int) {s : (Int × (List UInt8) × Nat)} {r : (List UInt8)} (h : lp (tollwayref11_digits_L1_step many_1) s = some r) : Does Tryd.prog GT 0 (.loop (bodyAt Tryd.prog 29 [1, 1, 0, 1, 0, 0])) (tollwayref11_digits_L1_H many_1 s) (tollwayref11_digits_L1_X many_1 r) (tollwayref11_digits_L1_E many_1 r) := by
  refine Does.lp (H := tollwayref11_digits_L1_H many_1) (X := tollwayref11_digits_L1_X many_1) (E := tollwayref11_digits_L1_E many_1) (fun s s2 h => ?_) (fun s r h => ?_) h
  · obtain ⟨v0, v5, k6⟩ := s
    unfold tollwayref11_digits_L1_step at h
    try dsimp only at h
    rcases ite_some h with ⟨c13, h⟩ | ⟨c13, h⟩
    · obtain ⟨h14, h⟩ := guard_some h
      obtain ⟨h15, h⟩ := guard_some h
      obtain ⟨h16, h⟩ := guard_some h
      obtain ⟨h17, h⟩ := guard_some h
      obtain ⟨h18, h⟩ := guard_some h
      obtain ⟨s19, h20, h⟩ := bind_some h
      obtain ⟨h21, h⟩ := guard_some h
      obtain ⟨h22, h⟩ := guard_some h
      obtain ⟨h23, h⟩ := guard_some h
      simp only [Option.some.injEq, Sum.inl.injEq] at h
      subst h
      have hq := tollwayref11_digits_L1_0 many_1 v0 v5 k6 c13 h14 h15 h16 h17 h18 s19 h20 h21 h22 h23
      first | exact hq | exact Eq.mp (by simp only [tollwayref11_digits_L1_H, List.length_set] <;> rfl) hq
    · simp at h
  · obtain ⟨v0, v5, k6⟩ := s
    unfold tollwayref11_digits_L1_step at h
    try dsimp only at h
    rcases ite_some h with ⟨c13, h⟩ | ⟨c13, h⟩
    · obtain ⟨h14, h⟩ := guard_some h
      obtain ⟨h15, h⟩ := guard_some h
      obtain ⟨h16, h⟩ := guard_some h
      obtain ⟨h17, h⟩ := guard_some h
      obtain ⟨h18, h⟩ := guard_some h
      obtain ⟨s19, h20, h⟩ := bind_some h
      obtain ⟨h21, h⟩ := guard_some h
      obtain ⟨h22, h⟩ := guard_some h
      obtain ⟨h23, h⟩ := guard_some h
      simp at h
    · simp only [Option.some.injEq, Sum.inr.injEq] at h
      subst h
      exact ⟨tollwayref11_digits_L1_1 many_1 v0 v5 k6 c13, by intro q; cases q⟩
noncomputable def tollwayref11_digits (n_0 : Int) (many_1 : Int) : Option (List UInt8) :=
  (lp (tollwayref11_digits_L1_step many_1) (n_0, ([] : List UInt8), (0 : Nat))).bind fun o1 =>
  some o1
theorem tollwayref11_digits_0 (n_0 : Int) (many_1 : Int) (o1 : (List UInt8)) (hl1 : lp (tollwayref11_digits_L1_step many_1) (n_0, ([] : List UInt8), (0 : Nat)) = some o1) : Ret Tryd.prog GT 29 [.int .i64 n_0, .int .i64 many_1] (.str o1) [] :=
  Ret.of_view 400 (cs 3 ((.fcut 0 (.exit 0) [(5, .str o1)] [] [] [(0, .int .i64 n_0), (1, .int .i64 many_1), (5, .str ([] : List UInt8)), (6, .int .i64 (↑(0 : Nat) : Int))] []) :: (cs 2 []))) [] (ps := [((.int .i64 n_0 : AV) = .int .i64 n_0), ((.int .i64 many_1 : AV) = .int .i64 many_1), ((.str [] : AV) = .str ([] : List UInt8)), ((.int .i64 0 : AV) = .int .i64 (↑(0 : Nat) : Int)), (Does Tryd.prog GT 0 (.loop (bodyAt Tryd.prog 29 [1, 1, 0, 1, 0, 0])) (S 24 [(0, .int .i64 n_0), (1, .int .i64 many_1), (5, .str ([] : List UInt8)), (6, .int .i64 (↑(0 : Nat) : Int))] []) (.exit 0) (S 24 [(5, .str o1)] []))]) (by kernel_rfl) (by kernel_rfl) ⟨rfl, rfl, rfl, rfl, ok1 (tollwayref11_digits_L1_does many_1 hl1)⟩
theorem tollwayref11_digits_ret (n_0 : Int) (many_1 : Int) (r : (List UInt8)) (h : tollwayref11_digits n_0 many_1 = some r) : Ret Tryd.prog GT 29 [.int .i64 n_0, .int .i64 many_1] (.str r) [] := by
  unfold tollwayref11_digits at h
  obtain ⟨o1, hl1, h⟩ := bind_some h
  simp only [Option.some.injEq] at h
  subst h
  exact tollwayref11_digits_0 n_0 many_1 o1 hl1
noncomputable def tollwayref11_number_L1_step (s_0 : (List UInt8)) : (Int × Nat) → Option ((Int × Nat) ⊕ Int)
  | (v3, k4) =>
    if (↑k4 : Int) < (↑s_0.length : Int) then
      if InR .i64 (10 * v3) then
        (s_0[k4]?).bind fun x12 =>
        if InR .u8 ((x12.toNat : Int) - 48) then
          if InR .i64 ((x12.toNat : Int) - 48) then
            if InR .i64 ((10 * v3) + ((x12.toNat : Int) - 48)) then
              if InR .i64 ((↑k4 : Int) + 1) then
                some (Sum.inl (((10 * v3) + ((x12.toNat : Int) - 48)), (k4 + 1)))
              else none
            else none
          else none
        else none
      else none
    else
      some (Sum.inr v3)
def tollwayref11_number_L1_H (s_0 : (List UInt8)) : (Int × Nat) → St := fun (s : (Int × Nat)) => S 20 [(0, .str s_0), (3, .int .i64 s.1), (4, .int .i64 (↑s.2 : Int))] []
theorem tollwayref11_number_L1_0 (s_0 : (List UInt8)) (v3 : Int) (k4 : Nat) (c10 : (↑k4 : Int) < (↑s_0.length : Int)) (h11 : InR .i64 (10 * v3)) (x12 : UInt8) (h13 : s_0[k4]? = some x12) (h14 : InR .u8 ((x12.toNat : Int) - 48)) (h15 : InR .i64 ((x12.toNat : Int) - 48)) (h16 : InR .i64 ((10 * v3) + ((x12.toNat : Int) - 48))) (h17 : InR .i64 ((↑k4 : Int) + 1)) : Does Tryd.prog GT 0 (bodyAt Tryd.prog 32 [1, 1, 0, 1, 0, 0]) (tollwayref11_number_L1_H s_0 (v3, k4)) .normal (S 20 [(0, .str s_0), (3, .int .i64 ((10 * v3) + ((x12.toNat : Int) - 48))), (4, .int .i64 ((↑k4 : Int) + 1))] []) :=
  Does.of_viewM 0 400 (cs 3 ((.op none .a) :: (.br true) :: (.op none .c) :: (.op none .w) :: (cs 2 ((.op none (.i k4)) :: (.tr (.eqt (.t 15) (.int .u8 (x12.toNat : Int)))) :: (.op none .w) :: (.op none .w) :: (.op none .w) :: (cs 2 [.op none .w, .op none .c]))))) [] (ps := [((decide ((↑k4 : Int) < (↑s_0.length : Int))) = true), (IntKind.min .i64 ≤ (10 * v3) ∧ (10 * v3) ≤ IntKind.max .i64), ((↑k4 : Int) = ((k4 : Nat) : Int) ∧ k4 < s_0.length), ((.int .u8 ((List.getD s_0 k4 0).toNat : Int) : AV) = .int .u8 (x12.toNat : Int)), (IntKind.min .u8 ≤ ((x12.toNat : Int) - 48) ∧ ((x12.toNat : Int) - 48) ≤ IntKind.max .u8), (IntKind.min .i64 ≤ ((x12.toNat : Int) - 48) ∧ ((x12.toNat : Int) - 48) ≤ IntKind.max .i64), (IntKind.min .i64 ≤ ((10 * v3) + ((x12.toNat : Int) - 48)) ∧ ((10 * v3) + ((x12.toNat : Int) - 48)) ≤ IntKind.max .i64), (IntKind.min .i64 ≤ ((↑k4 : Int) + 1) ∧ ((↑k4 : Int) + 1) ≤ IntKind.max .i64)]) (by kernel_rfl) (by kernel_rfl) ⟨(decide_eq_true c10), h11, ⟨rfl, get_lt h13⟩, (getD_u8 h13), h14, h15, h16, ok1 h17⟩
theorem tollwayref11_number_L1_1 (s_0 : (List UInt8)) (v3 : Int) (k4 : Nat) (c10 : ¬ ((↑k4 : Int) < (↑s_0.length : Int))) : Does Tryd.prog GT 0 (bodyAt Tryd.prog 32 [1, 1, 0, 1, 0, 0]) (tollwayref11_number_L1_H s_0 (v3, k4)) (.exit 0) (S 20 [(3, .int .i64 v3)] []) :=
  Does.of_viewM 0 400 (cs 3 [.op none .a, .br false]) [] (ps := [((decide ((↑k4 : Int) < (↑s_0.length : Int))) = false)]) (by kernel_rfl) (by kernel_rfl) (ok1 (decide_eq_false c10))
def tollwayref11_number_L1_X (s_0 : (List UInt8)) : Int → AEx := fun o => (.exit 0)
def tollwayref11_number_L1_E (s_0 : (List UInt8)) : Int → St := fun o => S 20 [(3, .int .i64 o)] []
theorem tollwayref11_number_L1_does (s_0 : (List UInt8)) {s : (Int × Nat)} {r : Int} (h : lp (tollwayref11_number_L1_step s_0) s = some r) : Does Tryd.prog GT 0 (.loop (bodyAt Tryd.prog 32 [1, 1, 0, 1, 0, 0])) (tollwayref11_number_L1_H s_0 s) (tollwayref11_number_L1_X s_0 r) (tollwayref11_number_L1_E s_0 r) := by
  refine Does.lp (H := tollwayref11_number_L1_H s_0) (X := tollwayref11_number_L1_X s_0) (E := tollwayref11_number_L1_E s_0) (fun s s2 h => ?_) (fun s r h => ?_) h
  · obtain ⟨v3, k4⟩ := s
    unfold tollwayref11_number_L1_step at h
    try dsimp only at h
    rcases ite_some h with ⟨c10, h⟩ | ⟨c10, h⟩
    · obtain ⟨h11, h⟩ := guard_some h
      obtain ⟨x12, h13, h⟩ := bind_some h
      obtain ⟨h14, h⟩ := guard_some h
      obtain ⟨h15, h⟩ := guard_some h
      obtain ⟨h16, h⟩ := guard_some h
      obtain ⟨h17, h⟩ := guard_some h
      simp only [Option.some.injEq, Sum.inl.injEq] at h
      subst h
      have hq := tollwayref11_number_L1_0 s_0 v3 k4 c10 h11 x12 h13 h14 h15 h16 h17
      first | exact hq | exact Eq.mp (by simp only [tollwayref11_number_L1_H, List.length_set] <;> rfl) hq
    · simp at h
  · obtain ⟨v3, k4⟩ := s
    unfold tollwayref11_number_L1_step at h
    try dsimp only at h
    rcases ite_some h with ⟨c10, h⟩ | ⟨c10, h⟩
    · obtain ⟨h11, h⟩ := guard_some h
      obtain ⟨x12, h13, h⟩ := bind_some h
      obtain ⟨h14, h⟩ := guard_some h
      obtain ⟨h15, h⟩ := guard_some h
      obtain ⟨h16, h⟩ := guard_some h
      obtain ⟨h17, h⟩ := guard_some h
      simp at h
    · simp only [Option.some.injEq, Sum.inr.injEq] at h
      subst h
      exact ⟨tollwayref11_number_L1_1 s_0 v3 k4 c10, by intro q; cases q⟩
noncomputable def tollwayref11_number (s_0 : (List UInt8)) : Option Int :=
  (lp (tollwayref11_number_L1_step s_0) ((0 : Int), (0 : Nat))).bind fun o1 =>
  some o1
theorem tollwayref11_number_0 (s_0 : (List UInt8)) (o1 : Int) (hl1 : lp (tollwayref11_number_L1_step s_0) ((0 : Int), (0 : Nat)) = some o1) : Ret Tryd.prog GT 32 [.str s_0] (.int .i64 o1) [] :=
  Ret.of_view 400 (cs 3 ((.fcut 0 (.exit 0) [(3, .int .i64 o1)] [] [] [(0, .str s_0), (3, .int .i64 (0 : Int)), (4, .int .i64 (↑(0 : Nat) : Int))] []) :: (cs 2 []))) [] (ps := [((.str s_0 : AV) = .str s_0), ((.int .i64 0 : AV) = .int .i64 (0 : Int)), ((.int .i64 0 : AV) = .int .i64 (↑(0 : Nat) : Int)), (Does Tryd.prog GT 0 (.loop (bodyAt Tryd.prog 32 [1, 1, 0, 1, 0, 0])) (S 20 [(0, .str s_0), (3, .int .i64 (0 : Int)), (4, .int .i64 (↑(0 : Nat) : Int))] []) (.exit 0) (S 20 [(3, .int .i64 o1)] []))]) (by kernel_rfl) (by kernel_rfl) ⟨rfl, rfl, rfl, ok1 (tollwayref11_number_L1_does s_0 hl1)⟩
theorem tollwayref11_number_ret (s_0 : (List UInt8)) (r : Int) (h : tollwayref11_number s_0 = some r) : Ret Tryd.prog GT 32 [.str s_0] (.int .i64 r) [] := by
  unfold tollwayref11_number at h
  obtain ⟨o1, hl1, h⟩ := bind_some h
  simp only [Option.some.injEq] at h
  subst h
  exact tollwayref11_number_0 s_0 o1 hl1
noncomputable def tollwayref11_Agency (s_0 : (List UInt8)) : Option ((List UInt8) × Int) :=
  (tollwayref11_Check s_0).bind fun r1 =>
  if r1 = (0 : Int) then
    if 3 ≤ s_0.length then
      some ((List.take 3 s_0), 0)
    else none
  else
    some (([] : List UInt8), 18)
theorem tollwayref11_Agency_0 (s_0 : (List UInt8)) (r1 : Int) (h2 : tollwayref11_Check s_0 = some r1) (c3 : r1 = (0 : Int)) (h4 : 3 ≤ s_0.length) : Ret Tryd.prog GT 21 [.str s_0] (.tup [.str (List.take 3 s_0), .int .i64 0]) [] :=
  Ret.of_view 400 (cs 3 ((.ret none [.str s_0] (.int .i64 r1) []) :: (.op none .a) :: (.br false) :: (.op none .c) :: (.op none (.s 0 3)) :: (cs 2 []))) [] (ps := [((.str s_0 : AV) = .str s_0), (Ret Tryd.prog GT 23 [.str s_0] (.int .i64 r1) []), ((!(r1 == (0 : Int))) = false), ((3 : Int) = ((3 : Nat) : Int)), (0 ≤ 3 ∧ 3 ≤ s_0.length)]) (by kernel_rfl) (by kernel_rfl) ⟨rfl, (tollwayref11_Check_ret s_0 r1 h2), (not_f (beq_t c3)), rfl, ok1 ⟨Nat.zero_le _, h4⟩⟩
theorem tollwayref11_Agency_1 (s_0 : (List UInt8)) (r1 : Int) (h2 : tollwayref11_Check s_0 = some r1) (c3 : ¬ (r1 = (0 : Int))) : Ret Tryd.prog GT 21 [.str s_0] (.tup [.str [], .int .i64 18]) [] :=
  Ret.of_view 400 (cs 3 ((.ret none [.str s_0] (.int .i64 r1) []) :: (.op none .a) :: (.br true) :: (cs 2 []))) [] (ps := [((.str s_0 : AV) = .str s_0), (Ret Tryd.prog GT 23 [.str s_0] (.int .i64 r1) []), ((!(r1 == (0 : Int))) = true)]) (by kernel_rfl) (by kernel_rfl) ⟨rfl, (tollwayref11_Check_ret s_0 r1 h2), ok1 (not_t (beq_f c3))⟩
theorem tollwayref11_Agency_ret (s_0 : (List UInt8)) (r : ((List UInt8) × Int)) (h : tollwayref11_Agency s_0 = some r) : Ret Tryd.prog GT 21 [.str s_0] (.tup [.str r.1, .int .i64 r.2]) [] := by
  unfold tollwayref11_Agency at h
  obtain ⟨r1, h2, h⟩ := bind_some h
  rcases ite_some h with ⟨c3, h⟩ | ⟨c3, h⟩
  · obtain ⟨h4, h⟩ := guard_some h
    simp only [Option.some.injEq] at h
    subst h
    exact tollwayref11_Agency_0 s_0 r1 h2 c3 h4
  · simp only [Option.some.injEq] at h
    subst h
    exact tollwayref11_Agency_1 s_0 r1 h2 c3
noncomputable def tollwayref11_Serial (s_0 : (List UInt8)) : Option (Int × Int) :=
  (tollwayref11_Check s_0).bind fun r1 =>
  if r1 = (0 : Int) then
    if 3 ≤ 11 then
      if 11 ≤ s_0.length then
        (tollwayref11_number (List.drop 3 (List.take 11 s_0))).bind fun r6 =>
        some (r6, 0)
      else none
    else none
  else
    some (0, 18)
theorem tollwayref11_Serial_0 (s_0 : (List UInt8)) (r1 : Int) (h2 : tollwayref11_Check s_0 = some r1) (c3 : r1 = (0 : Int)) (h4 : 3 ≤ 11) (h5 : 11 ≤ s_0.length) (r6 : Int) (h7 : tollwayref11_number (List.drop 3 (List.take 11 s_0)) = some r6) : Ret Tryd.prog GT 22 [.str s_0] (.tup [.int .i64 r6, .int .i64 0]) [] :=
  Ret.of_view 400 (cs 3 ((.ret none [.str s_0] (.int .i64 r1) []) :: (.op none .a) :: (.br false) :: (.op none .c) :: (.op none (.s 3 11)) :: (.ret none [.str (List.drop 3 (List.take 11 s_0))] (.int .i64 r6) []) :: (cs 2 []))) [] (ps := [((.str s_0 : AV) = .str s_0), (Ret Tryd.prog GT 23 [.str s_0] (.int .i64 r1) []), ((!(r1 == (0 : Int))) = false), ((11 : Int) = ((11 : Nat) : Int)), ((3 : Int) = ((3 : Nat) : Int)), (3 ≤ 11 ∧ 11 ≤ s_0.length), ((.str (List.drop 3 (List.take 11 s_0)) : AV) = .str (List.drop 3 (List.take 11 s_0))), (Ret Tryd.prog GT 32 [.str (List.drop 3 (List.take 11 s_0))] (.int .i64 r6) [])]) (by kernel_rfl) (by kernel_rfl) ⟨rfl, (tollwayref11_Check_ret s_0 r1 h2), (not_f (beq_t c3)), rfl, rfl, ⟨h4, h5⟩, rfl, ok1 (tollwayref11_number_ret (List.drop 3 (List.take 11 s_0)) r6 h7)⟩
theorem tollwayref11_Serial_1 (s_0 : (List UInt8)) (r1 : Int) (h2 : tollwayref11_Check s_0 = some r1) (c3 : ¬ (r1 = (0 : Int))) : Ret Tryd.prog GT 22 [.str s_0] (.tup [.int .i64 0, .int .i64 18]) [] :=
  Ret.of_view 400 (cs 3 ((.ret none [.str s_0] (.int .i64 r1) []) :: (.op none .a) :: (.br true) :: (cs 2 []))) [] (ps := [((.str s_0 : AV) = .str s_0), (Ret Tryd.prog GT 23 [.str s_0] (.int .i64 r1) []), ((!(r1 == (0 : Int))) = true)]) (by kernel_rfl) (by kernel_rfl) ⟨rfl, (tollwayref11_Check_ret s_0 r1 h2), ok1 (not_t (beq_f c3))⟩
theorem tollwayref11_Serial_ret (s_0 : (List UInt8)) (r : (Int × Int)) (h : tollwayref11_Serial s_0 = some r) : Ret Tryd.prog GT 22 [.str s_0] (.tup [.int .i64 r.1, .int .i64 r.2]) [] := by
  unfold tollwayref11_Serial at h
  obtain ⟨r1, h2, h⟩ := bind_some h
  rcases ite_some h with ⟨c3, h⟩ | ⟨c3, h⟩
  · obtain ⟨h4, h⟩ := guard_some h
    obtain ⟨h5, h⟩ := guard_some h
    obtain ⟨r6, h7, h⟩ := bind_some h
    simp only [Option.some.injEq] at h
    subst h
    exact tollwayref11_Serial_0 s_0 r1 h2 c3 h4 h5 r6 h7
  · simp only [Option.some.injEq] at h
    subst h
    exact tollwayref11_Serial_1 s_0 r1 h2 c3
noncomputable def tollwayref11_after (a_0 : Tapi_TagState) (b_1 : Tapi_TagState) : Option Bool :=
  if a_0.Tag = b_1.Tag then
    some (decide (a_0.From > b_1.From))
  else
    some (!(Op.bytesLess a_0.Tag b_1.Tag || a_0.Tag == b_1.Tag))
theorem tollwayref11_after_0 (a_0 : Tapi_TagState) (b_1 : Tapi_TagState) (c1 : a_0.Tag = b_1.Tag) : Ret Tryd.prog GT 31 [.agg (Tapi_TagState.enc a_0), .agg (Tapi_TagState.enc b_1)] (.bool (decide (a_0.From > b_1.From))) [] :=
  Ret.of_view 400 (cs 7 ((.op none .a) :: (.br false) :: (cs 4 [.op none .a, .op none .c]))) [] (ps := [((!(a_0.Tag == b_1.Tag)) = false)]) (by kernel_rfl) (by kernel_rfl) (ok1 (not_f (beq_t c1)))
theorem tollwayref11_after_1 (a_0 : Tapi_TagState) (b_1 : Tapi_TagState) (c1 : ¬ (a_0.Tag = b_1.Tag)) : Ret Tryd.prog GT 31 [.agg (Tapi_TagState.enc a_0), .agg (Tapi_TagState.enc b_1)] (.bool (!(Op.bytesLess a_0.Tag b_1.Tag || a_0.Tag == b_1.Tag))) [] :=
  Ret.of_view 400 (cs 7 ((.op none .a) :: (.br true) :: (cs 4 [.op none .a, .op none .c]))) [] (ps := [((!(a_0.Tag == b_1.Tag)) = true)]) (by kernel_rfl) (by kernel_rfl) (ok1 (not_t (beq_f c1)))
theorem tollwayref11_after_ret (a_0 : Tapi_TagState) (b_1 : Tapi_TagState) (r : Bool) (h : tollwayref11_after a_0 b_1 = some r) : Ret Tryd.prog GT 31 [.agg (Tapi_TagState.enc a_0), .agg (Tapi_TagState.enc b_1)] (.bool r) [] := by
  unfold tollwayref11_after at h
  rcases ite_some h with ⟨c1, h⟩ | ⟨c1, h⟩
  · simp only [Option.some.injEq] at h
    subst h
    exact tollwayref11_after_0 a_0 b_1 c1
  · simp only [Option.some.injEq] at h
    subst h
    exact tollwayref11_after_1 a_0 b_1 c1
noncomputable def tollwayref11_CheckAll_L2_step (l_0 : (List Tapi_TagState)) : Nat → Option (Nat ⊕ (Int ⊕ Unit)) := fun k3 =>
  if (↑k3 : Int) < (↑l_0.length : Int) then
    (l_0[k3]?).bind fun x24 =>
    (tollwayref11_Check x24.Tag).bind fun r26 =>
    if r26 = (0 : Int) then
      if x24.From < (0 : Int) then
        some (Sum.inr (Sum.inl 12))
      else
        if x24.From ≥ (68719476736 : Int) then
          some (Sum.inr (Sum.inl 12))
        else
          if x24.State < (1 : Int) then
            some (Sum.inr (Sum.inl 1))
          else
            if x24.State > (3 : Int) then
              some (Sum.inr (Sum.inl 1))
            else
              if (↑k3 : Int) > (0 : Int) then
                if InR .i64 ((↑k3 : Int) - 1) then
                  if (0 : Int) ≤ ((↑k3 : Int) - 1) then
                    (l_0[(Int.toNat ((↑k3 : Int) - 1))]?).bind fun x36 =>
                    (tollwayref11_after x24 x36).bind fun r38 =>
                    if r38 = true then
                      if InR .i64 ((↑k3 : Int) + 1) then
                        some (Sum.inl (k3 + 1))
                      else none
                    else
                      some (Sum.inr (Sum.inl 15))
                  else none
                else none
              else
                if InR .i64 ((↑k3 : Int) + 1) then
                  some (Sum.inl (k3 + 1))
                else none
    else
      some (Sum.inr (Sum.inl 18))
  else
    some (Sum.inr (Sum.inr (())))
def tollwayref11_CheckAll_L2_H (l_0 : (List Tapi_TagState)) : Nat → St := fun (s : Nat) => S 50 [(0, .lst (fl Tapi_TagState.enc l_0) l_0.length), (3, .int .i64 (↑s : Int))] []
theorem tollwayref11_CheckAll_L2_0 (l_0 : (List Tapi_TagState)) (k3 : Nat) (c23 : (↑k3 : Int) < (↑l_0.length : Int)) (x24 : Tapi_TagState) (h25 : l_0[k3]? = some x24) (r26 : Int) (h27 : tollwayref11_Check x24.Tag = some r26) (c28 : r26 = (0 : Int)) (c29 : x24.From < (0 : Int)) : Does Tryd.prog GT 0 (bodyAt Tryd.prog 15 [1, 1, 0, 1, 0, 0]) (tollwayref11_CheckAll_L2_H l_0 k3) .ret (S 50 [(2, .int .i64 12)] []) :=
  Does.of_viewM 0 400 (cs 3 ((.op none .a) :: (.br true) :: (cs 2 ((.op none (.i k3)) :: (.op none (.v [.str x24.Tag, .int .i64 x24.From, .int .i64 x24.State])) :: (cs 4 ((.ret none [.str x24.Tag] (.int .i64 r26) []) :: (.op none .a) :: (.br false) :: (cs 2 ((.op none .a) :: (.op none .c) :: (.op (some true) .c) :: (cs 3 [.br true, .op none .c]))))))))) [] (ps := [((decide ((↑k3 : Int) < (↑l_0.length : Int))) = true), ((↑k3 : Int) = ((k3 : Nat) : Int) ∧ k3 < l_0.length), ((fl Tapi_TagState.enc l_0) ≠ []), (sub (fl Tapi_TagState.enc l_0) (k3 * 3) 3 = [.str x24.Tag, .int .i64 x24.From, .int .i64 x24.State]), ((.str x24.Tag : AV) = .str x24.Tag), (Ret Tryd.prog GT 23 [.str x24.Tag] (.int .i64 r26) []), ((!(r26 == (0 : Int))) = false), ((decide (x24.From < (0 : Int))) = true), (true = true)]) (by kernel_rfl) (by kernel_rfl) ⟨(decide_eq_true c23), ⟨rfl, get_lt h25⟩, (fl_ne (f := Tapi_TagState.enc) (z := 2) (fun _ => rfl) h25), (fl_sub0 (f := Tapi_TagState.enc) (z := 3) (j := k3) (fun _ => rfl) h25 rfl), rfl, (tollwayref11_Check_ret x24.Tag r26 h27), (not_f (beq_t c28)), (decide_eq_true c29), ok1 rfl⟩
theorem tollwayref11_CheckAll_L2_1 (l_0 : (List Tapi_TagState)) (k3 : Nat) (c23 : (↑k3 : Int) < (↑l_0.length : Int)) (x24 : Tapi_TagState) (h25 : l_0[k3]? = some x24) (r26 : Int) (h27 : tollwayref11_Check x24.Tag = some r26) (c28 : r26 = (0 : Int)) (c29 : ¬ (x24.From < (0 : Int))) (c30 : x24.From ≥ (68719476736 : Int)) : Does Tryd.prog GT 0 (bodyAt Tryd.prog 15 [1, 1, 0, 1, 0, 0]) (tollwayref11_CheckAll_L2_H l_0 k3) .ret (S 50 [(2, .int .i64 12)] []) :=
  Does.of_viewM 0 400 (cs 3 ((.op none .a) :: (.br true) :: (cs 2 ((.op none (.i k3)) :: (.op none (.v [.str x24.Tag, .int .i64 x24.From, .int .i64 x24.State])) :: (cs 4 ((.ret none [.str x24.Tag] (.int .i64 r26) []) :: (.op none .a) :: (.br false) :: (cs 2 [.op none .a, .op none .c, .op (some false) .c, .op none .c, .op none .a, .op none .c, .br true, .op none .c]))))))) [] (ps := [((decide ((↑k3 : Int) < (↑l_0.length : Int))) = true), ((↑k3 : Int) = ((k3 : Nat) : Int) ∧ k3 < l_0.length), ((fl Tapi_TagState.enc l_0) ≠ []), (sub (fl Tapi_TagState.enc l_0) (k3 * 3) 3 = [.str x24.Tag, .int .i64 x24.From, .int .i64 x24.State]), ((.str x24.Tag : AV) = .str x24.Tag), (Ret Tryd.prog GT 23 [.str x24.Tag] (.int .i64 r26) []), ((!(r26 == (0 : Int))) = false), ((decide (x24.From < (0 : Int))) = false), ((decide (x24.From ≥ (68719476736 : Int))) = true)]) (by kernel_rfl) (by kernel_rfl) ⟨(decide_eq_true c23), ⟨rfl, get_lt h25⟩, (fl_ne (f := Tapi_TagState.enc) (z := 2) (fun _ => rfl) h25), (fl_sub0 (f := Tapi_TagState.enc) (z := 3) (j := k3) (fun _ => rfl) h25 rfl), rfl, (tollwayref11_Check_ret x24.Tag r26 h27), (not_f (beq_t c28)), (decide_eq_false c29), ok1 (decide_eq_true c30)⟩
theorem tollwayref11_CheckAll_L2_2 (l_0 : (List Tapi_TagState)) (k3 : Nat) (c23 : (↑k3 : Int) < (↑l_0.length : Int)) (x24 : Tapi_TagState) (h25 : l_0[k3]? = some x24) (r26 : Int) (h27 : tollwayref11_Check x24.Tag = some r26) (c28 : r26 = (0 : Int)) (c29 : ¬ (x24.From < (0 : Int))) (c30 : ¬ (x24.From ≥ (68719476736 : Int))) (c31 : x24.State < (1 : Int)) : Does Tryd.prog GT 0 (bodyAt Tryd.prog 15 [1, 1, 0, 1, 0, 0]) (tollwayref11_CheckAll_L2_H l_0 k3) .ret (S 50 [(2, .int .i64 1)] []) :=
  Does.of_viewM 0 400 (cs 3 ((.op none .a) :: (.br true) :: (cs 2 ((.op none (.i k3)) :: (.op none (.v [.str x24.Tag, .int .i64 x24.From, .int .i64 x24.State])) :: (cs 4 ((.ret none [.str x24.Tag] (.int .i64 r26) []) :: (.op none .a) :: (.br false) :: (cs 2 ((.op none .a) :: (.op none .c) :: (.op (some false) .c) :: (.op none .c) :: (.op none .a) :: (.op none .c) :: (.br false) :: (cs 2 ((.op none .a) :: (.op none .c) :: (.op (some true) .c) :: (cs 3 [.br true, .op none .c]))))))))))) [] (ps := [((decide ((↑k3 : Int) < (↑l_0.length : Int))) = true), ((↑k3 : Int) = ((k3 : Nat) : Int) ∧ k3 < l_0.length), ((fl Tapi_TagState.enc l_0) ≠ []), (sub (fl Tapi_TagState.enc l_0) (k3 * 3) 3 = [.str x24.Tag, .int .i64 x24.From, .int .i64 x24.State]), ((.str x24.Tag : AV) = .str x24.Tag), (Ret Tryd.prog GT 23 [.str x24.Tag] (.int .i64 r26) []), ((!(r26 == (0 : Int))) = false), ((decide (x24.From < (0 : Int))) = false), ((decide (x24.From ≥ (68719476736 : Int))) = false), ((decide (x24.State < (1 : Int))) = true), (true = true)]) (by kernel_rfl) (by kernel_rfl) ⟨(decide_eq_true c23), ⟨rfl, get_lt h25⟩, (fl_ne (f := Tapi_TagState.enc) (z := 2) (fun _ => rfl) h25), (fl_sub0 (f := Tapi_TagState.enc) (z := 3) (j := k3) (fun _ => rfl) h25 rfl), rfl, (tollwayref11_Check_ret x24.Tag r26 h27), (not_f (beq_t c28)), (decide_eq_false c29), (decide_eq_false c30), (decide_eq_true c31), ok1 rfl⟩
theorem tollwayref11_CheckAll_L2_3 (l_0 : (List Tapi_TagState)) (k3 : Nat) (c23 : (↑k3 : Int) < (↑l_0.length : Int)) (x24 : Tapi_TagState) (h25 : l_0[k3]? = some x24) (r26 : Int) (h27 : tollwayref11_Check x24.Tag = some r26) (c28 : r26 = (0 : Int)) (c29 : ¬ (x24.From < (0 : Int))) (c30 : ¬ (x24.From ≥ (68719476736 : Int))) (c31 : ¬ (x24.State < (1 : Int))) (c32 : x24.State > (3 : Int)) : Does Tryd.prog GT 0 (bodyAt Tryd.prog 15 [1, 1, 0, 1, 0, 0]) (tollwayref11_CheckAll_L2_H l_0 k3) .ret (S 50 [(2, .int .i64 1)] []) :=
  Does.of_viewM 0 400 (cs 3 ((.op none .a) :: (.br true) :: (cs 2 ((.op none (.i k3)) :: (.op none (.v [.str x24.Tag, .int .i64 x24.From, .int .i64 x24.State])) :: (cs 4 ((.ret none [.str x24.Tag] (.int .i64 r26) []) :: (.op none .a) :: (.br false) :: (cs 2 ((.op none .a) :: (.op none .c) :: (.op (some false) .c) :: (.op none .c) :: (.op none .a) :: (.op none .c) :: (.br false) :: (cs 2 [.op none .a, .op none .c, .op (some false) .c, .op none .c, .op none .a, .op none .c, .br true, .op none .c]))))))))) [] (ps := [((decide ((↑k3 : Int) < (↑l_0.length : Int))) = true), ((↑k3 : Int) = ((k3 : Nat) : Int) ∧ k3 < l_0.length), ((fl Tapi_TagState.enc l_0) ≠ []), (sub (fl Tapi_TagState.enc l_0) (k3 * 3) 3 = [.str x24.Tag, .int .i64 x24.From, .int .i64 x24.State]), ((.str x24.Tag : AV) = .str x24.Tag), (Ret Tryd.prog GT 23 [.str x24.Tag] (.int .i64 r26) []), ((!(r26 == (0 : Int))) = false), ((decide (x24.From < (0 : Int))) = false), ((decide (x24.From ≥ (68719476736 : Int))) = false), ((decide (x24.State < (1 : Int))) = false), ((decide (x24.State > (3 : Int))) = true)]) (by kernel_rfl) (by kernel_rfl) ⟨(decide_eq_true c23), ⟨rfl, get_lt h25⟩, (fl_ne (f := Tapi_TagState.enc) (z := 2) (fun _ => rfl) h25), (fl_sub0 (f := Tapi_TagState.enc) (z := 3) (j := k3) (fun _ => rfl) h25 rfl), rfl, (tollwayref11_Check_ret x24.Tag r26 h27), (not_f (beq_t c28)), (decide_eq_false c29), (decide_eq_false c30), (decide_eq_false c31), ok1 (decide_eq_true c32)⟩
theorem tollwayref11_CheckAll_L2_4 (l_0 : (List Tapi_TagState)) (k3 : Nat) (c23 : (↑k3 : Int) < (↑l_0.length : Int)) (x24 : Tapi_TagState) (h25 : l_0[k3]? = some x24) (r26 : Int) (h27 : tollwayref11_Check x24.Tag = some r26) (c28 : r26 = (0 : Int)) (c29 : ¬ (x24.From < (0 : Int))) (c30 : ¬ (x24.From ≥ (68719476736 : Int))) (c31 : ¬ (x24.State < (1 : Int))) (c32 : ¬ (x24.State > (3 : Int))) (c33 : (↑k3 : Int) > (0 : Int)) (h34 : InR .i64 ((↑k3 : Int) - 1)) (h35 : (0 : Int) ≤ ((↑k3 : Int) - 1)) (x36 : Tapi_TagState) (h37 : l_0[(Int.toNat ((↑k3 : Int) - 1))]? = some x36) (r38 : Bool) (h39 : tollwayref11_after x24 x36 = some r38) (c40 : r38 = true) (h41 : InR .i64 ((↑k3 : Int) + 1)) : Does Tryd.prog GT 0 (bodyAt Tryd.prog 15 [1, 1, 0, 1, 0, 0]) (tollwayref11_CheckAll_L2_H l_0 k3) .normal (S 50 [(0, .lst (fl Tapi_TagState.enc l_0) l_0.length), (3, .int .i64 ((↑k3 : Int) + 1))] []) :=
  Does.of_viewM 0 400 (cs 3 ((.op none .a) :: (.br true) :: (cs 2 ((.op none (.i k3)) :: (.op none (.v [.str x24.Tag, .int .i64 x24.From, .int .i64 x24.State])) :: (cs 4 ((.ret none [.str x24.Tag] (.int .i64 r26) []) :: (.op none .a) :: (.br false) :: (cs 2 ((.op none .a) :: (.op none .c) :: (.op (some false) .c) :: (.op none .c) :: (.op none .a) :: (.op none .c) :: (.br false) :: (cs 2 [.op none .a, .op none .c, .op (some false) .c, .op none .c, .op none .a, .op none .c, .br false, .op none .c, .op none .a, .op none .c, .op (some true) .c, .op (some true) .c, .op (some true) .c, .op (some true) .w, .op (some true) (.i (Int.toNat ((↑k3 : Int) - 1))), .op (some true) (.v [.str x36.Tag, .int .i64 x36.From, .int .i64 x36.State]), .ret (some true) [.agg (Tapi_TagState.enc x24), .agg (Tapi_TagState.enc x36)] (.bool r38) [], .op (some true) .c, .op none (.b true), .br false, .op none .c, .op none .w, .op none .c]))))))))) [] (ps := [((decide ((↑k3 : Int) < (↑l_0.length : Int))) = true), ((↑k3 : Int) = ((k3 : Nat) : Int) ∧ k3 < l_0.length), ((fl Tapi_TagState.enc l_0) ≠ []), (sub (fl Tapi_TagState.enc l_0) (k3 * 3) 3 = [.str x24.Tag, .int .i64 x24.From, .int .i64 x24.State]), ((.str x24.Tag : AV) = .str x24.Tag), (Ret Tryd.prog GT 23 [.str x24.Tag] (.int .i64 r26) []), ((!(r26 == (0 : Int))) = false), ((decide (x24.From < (0 : Int))) = false), ((decide (x24.From ≥ (68719476736 : Int))) = false), ((decide (x24.State < (1 : Int))) = false), ((decide (x24.State > (3 : Int))) = false), ((decide ((↑k3 : Int) > (0 : Int))) = true), ((decide ((↑k3 : Int) > (0 : Int))) = true), ((decide ((↑k3 : Int) > (0 : Int))) = true), ((decide ((↑k3 : Int) > (0 : Int))) = true), (IntKind.min .i64 ≤ ((↑k3 : Int) - 1) ∧ ((↑k3 : Int) - 1) ≤ IntKind.max .i64), ((decide ((↑k3 : Int) > (0 : Int))) = true), (((↑k3 : Int) - 1) = (((Int.toNat ((↑k3 : Int) - 1)) : Nat) : Int) ∧ (Int.toNat ((↑k3 : Int) - 1)) < l_0.length), ((fl Tapi_TagState.enc l_0) ≠ []), ((decide ((↑k3 : Int) > (0 : Int))) = true), (sub (fl Tapi_TagState.enc l_0) ((Int.toNat ((↑k3 : Int) - 1)) * 3) 3 = [.str x36.Tag, .int .i64 x36.From, .int .i64 x36.State]), ((decide ((↑k3 : Int) > (0 : Int))) = true), ((.agg (Tapi_TagState.enc x24) : AV) = .agg (Tapi_TagState.enc x24)), ((.agg (Tapi_TagState.enc x36) : AV) = .agg (Tapi_TagState.enc x36)), (Ret Tryd.prog GT 31 [.agg (Tapi_TagState.enc x24), .agg (Tapi_TagState.enc x36)] (.bool r38) []), ((decide ((↑k3 : Int) > (0 : Int))) = true), ((decide ((↑k3 : Int) > (0 : Int))) = true), ((!r38) = false), (IntKind.min .i64 ≤ ((↑k3 : Int) + 1) ∧ ((↑k3 : Int) + 1) ≤ IntKind.max .i64)]) (by kernel_rfl) (by kernel_rfl) ⟨(decide_eq_true c23), ⟨rfl, get_lt h25⟩, (fl_ne (f := Tapi_TagState.enc) (z := 2) (fun _ => rfl) h25), (fl_sub0 (f := Tapi_TagState.enc) (z := 3) (j := k3) (fun _ => rfl) h25 rfl), rfl, (tollwayref11_Check_ret x24.Tag r26 h27), (not_f (beq_t c28)), (decide_eq_false c29), (decide_eq_false c30), (decide_eq_false c31), (decide_eq_false c32), (decide_eq_true c33), (decide_eq_true c33), (decide_eq_true c33), (decide_eq_true c33), h34, (decide_eq_true c33), ⟨(Int.toNat_of_nonneg h35).symm, get_lt h37⟩, (fl_ne (f := Tapi_TagState.enc) (z := 2) (fun _ => rfl) h37), (decide_eq_true c33), (fl_sub0 (f := Tapi_TagState.enc) (z := 3) (j := (Int.toNat ((↑k3 : Int) - 1))) (fun _ => rfl) h37 rfl), (decide_eq_true c33), rfl, rfl, (tollwayref11_after_ret x24 x36 r38 h39), (decide_eq_true c33), (decide_eq_true c33), (not_f c40), ok1 h41⟩
theorem tollwayref11_CheckAll_L2_5 (l_0 : (List Tapi_TagState)) (k3 : Nat) (c23 : (↑k3 : Int) < (↑l_0.length : Int)) (x24 : Tapi_TagState) (h25 : l_0[k3]? = some x24) (r26 : Int) (h27 : tollwayref11_Check x24.Tag = some r26) (c28 : r26 = (0 : Int)) (c29 : ¬ (x24.From < (0 : Int))) (c30 : ¬ (x24.From ≥ (68719476736 : Int))) (c31 : ¬ (x24.State < (1 : Int))) (c32 : ¬ (x24.State > (3 : Int))) (c33 : (↑k3 : Int) > (0 : Int)) (h34 : InR .i64 ((↑k3 : Int) - 1)) (h35 : (0 : Int) ≤ ((↑k3 : Int) - 1)) (x36 : Tapi_TagState) (h37 : l_0[(Int.toNat ((↑k3 : Int) - 1))]? = some x36) (r38 : Bool) (h39 : tollwayref11_after x24 x36 = some r38) (c40 : ¬ (r38 = true)) : Does Tryd.prog GT 0 (bodyAt Tryd.prog 15 [1, 1, 0, 1, 0, 0]) (tollwayref11_CheckAll_L2_H l_0 k3) .ret (S 50 [(2, .int .i64 15)] []) :=
  Does.of_viewM 0 400 (cs 3 ((.op none .a) :: (.br true) :: (cs 2 ((.op none (.i k3)) :: (.op none (.v [.str x24.Tag, .int .i64 x24.From, .int .i64 x24.State])) :: (cs 4 ((.ret none [.str x24.Tag] (.int .i64 r26) []) :: (.op none .a) :: (.br false) :: (cs 2 ((.op none .a) :: (.op none .c) :: (.op (some false) .c) :: (.op none .c) :: (.op none .a) :: (.op none .c) :: (.br false) :: (cs 2 [.op none .a, .op none .c, .op (some false) .c, .op none .c, .op none .a, .op none .c, .br false, .op none .c, .op none .a, .op none .c, .op (some true) .c, .op (some true) .c, .op (some true) .c, .op (some true) .w, .op (some true) (.i (Int.toNat ((↑k3 : Int) - 1))), .op (some true) (.v [.str x36.Tag, .int .i64 x36.From, .int .i64 x36.State]), .ret (some true) [.agg (Tapi_TagState.enc x24), .agg (Tapi_TagState.enc x36)] (.bool r38) [], .op (some true) .c, .op none (.b true), .br true, .op none .c]))))))))) [] (ps := [((decide ((↑k3 : Int) < (↑l_0.length : Int))) = true), ((↑k3 : Int) = ((k3 : Nat) : Int) ∧ k3 < l_0.length), ((fl Tapi_TagState.enc l_0) ≠ []), (sub (fl Tapi_TagState.enc l_0) (k3 * 3) 3 = [.str x24.Tag, .int .i64 x24.From, .int .i64 x24.State]), ((.str x24.Tag : AV) = .str x24.Tag), (Ret Tryd.prog GT 23 [.str x24.Tag] (.int .i64 r26) []), ((!(r26 == (0 : Int))) = false), ((decide (x24.From < (0 : Int))) = false), ((decide (x24.From ≥ (68719476736 : Int))) = false), ((decide (x24.State < (1 : Int))) = false), ((decide (x24.State > (3 : Int))) = false), ((decide ((↑k3 : Int) > (0 : Int))) = true), ((decide ((↑k3 : Int) > (0 : Int))) = true), ((decide ((↑k3 : Int) > (0 : Int))) = true), ((decide ((↑k3 : Int) > (0 : Int))) = true), (IntKind.min .i64 ≤ ((↑k3 : Int) - 1) ∧ ((↑k3 : Int) - 1) ≤ IntKind.max .i64), ((decide ((↑k3 : Int) > (0 : Int))) = true), (((↑k3 : Int) - 1) = (((Int.toNat ((↑k3 : Int) - 1)) : Nat) : Int) ∧ (Int.toNat ((↑k3 : Int) - 1)) < l_0.length), ((fl Tapi_TagState.enc l_0) ≠ []), ((decide ((↑k3 : Int) > (0 : Int))) = true), (sub (fl Tapi_TagState.enc l_0) ((Int.toNat ((↑k3 : Int) - 1)) * 3) 3 = [.str x36.Tag, .int .i64 x36.From, .int .i64 x36.State]), ((decide ((↑k3 : Int) > (0 : Int))) = true), ((.agg (Tapi_TagState.enc x24) : AV) = .agg (Tapi_TagState.enc x24)), ((.agg (Tapi_TagState.enc x36) : AV) = .agg (Tapi_TagState.enc x36)), (Ret Tryd.prog GT 31 [.agg (Tapi_TagState.enc x24), .agg (Tapi_TagState.enc x36)] (.bool r38) []), ((decide ((↑k3 : Int) > (0 : Int))) = true), ((decide ((↑k3 : Int) > (0 : Int))) = true), ((!r38) = true)]) (by kernel_rfl) (by kernel_rfl) ⟨(decide_eq_true c23), ⟨rfl, get_lt h25⟩, (fl_ne (f := Tapi_TagState.enc) (z := 2) (fun _ => rfl) h25), (fl_sub0 (f := Tapi_TagState.enc) (z := 3) (j := k3) (fun _ => rfl) h25 rfl), rfl, (tollwayref11_Check_ret x24.Tag r26 h27), (not_f (beq_t c28)), (decide_eq_false c29), (decide_eq_false c30), (decide_eq_false c31), (decide_eq_false c32), (decide_eq_true c33), (decide_eq_true c33), (decide_eq_true c33), (decide_eq_true c33), h34, (decide_eq_true c33), ⟨(Int.toNat_of_nonneg h35).symm, get_lt h37⟩, (fl_ne (f := Tapi_TagState.enc) (z := 2) (fun _ => rfl) h37), (decide_eq_true c33), (fl_sub0 (f := Tapi_TagState.enc) (z := 3) (j := (Int.toNat ((↑k3 : Int) - 1))) (fun _ => rfl) h37 rfl), (decide_eq_true c33), rfl, rfl, (tollwayref11_after_ret x24 x36 r38 h39), (decide_eq_true c33), (decide_eq_true c33), ok1 (not_t (eq_false_of_ne_true c40))⟩
theorem tollwayref11_CheckAll_L2_6 (l_0 : (List Tapi_TagState)) (k3 : Nat) (c23 : (↑k3 : Int) < (↑l_0.length : Int)) (x24 : Tapi_TagState) (h25 : l_0[k3]? = some x24) (r26 : Int) (h27 : tollwayref11_Check x24.Tag = some r26) (c28 : r26 = (0 : Int)) (c29 : ¬ (x24.From < (0 : Int))) (c30 : ¬ (x24.From ≥ (68719476736 : Int))) (c31 : ¬ (x24.State < (1 : Int))) (c32 : ¬ (x24.State > (3 : Int))) (c33 : ¬ ((↑k3 : Int) > (0 : Int))) (h42 : InR .i64 ((↑k3 : Int) + 1)) : Does Tryd.prog GT 0 (bodyAt Tryd.prog 15 [1, 1, 0, 1, 0, 0]) (tollwayref11_CheckAll_L2_H l_0 k3) .normal (S 50 [(0, .lst (fl Tapi_TagState.enc l_0) l_0.length), (3, .int .i64 ((↑k3 : Int) + 1))] []) :=
  Does.of_viewM 0 400 (cs 3 ((.op none .a) :: (.br true) :: (cs 2 ((.op none (.i k3)) :: (.op none (.v [.str x24.Tag, .int .i64 x24.From, .int .i64 x24.State])) :: (cs 4 ((.ret none [.str x24.Tag] (.int .i64 r26) []) :: (.op none .a) :: (.br false) :: (cs 2 ((.op none .a) :: (.op none .c) :: (.op (some false) .c) :: (.op none .c) :: (.op none .a) :: (.op none .c) :: (.br false) :: (cs 2 [.op none .a, .op none .c, .op (some false) .c, .op none .c, .op none .a, .op none .c, .br false, .op none .c, .op none .a, .op none .c, .op (some false) .c, .op (some false) .c, .op (some false) .c, .op (some false) .c, .op (some false) .c, .op (some false) .c, .op (some false) .c, .op (some false) .c, .op none (.b false), .br false, .op none .c, .op none .w, .op none .c]))))))))) [] (ps := [((decide ((↑k3 : Int) < (↑l_0.length : Int))) = true), ((↑k3 : Int) = ((k3 : Nat) : Int) ∧ k3 < l_0.length), ((fl Tapi_TagState.enc l_0) ≠ []), (sub (fl Tapi_TagState.enc l_0) (k3 * 3) 3 = [.str x24.Tag, .int .i64 x24.From, .int .i64 x24.State]), ((.str x24.Tag : AV) = .str x24.Tag), (Ret Tryd.prog GT 23 [.str x24.Tag] (.int .i64 r26) []), ((!(r26 == (0 : Int))) = false), ((decide (x24.From < (0 : Int))) = false), ((decide (x24.From ≥ (68719476736 : Int))) = false), ((decide (x24.State < (1 : Int))) = false), ((decide (x24.State > (3 : Int))) = false), ((decide ((↑k3 : Int) > (0 : Int))) = false), ((decide ((↑k3 : Int) > (0 : Int))) = false), ((decide ((↑k3 : Int) > (0 : Int))) = false), ((decide ((↑k3 : Int) > (0 : Int))) = false), ((decide ((↑k3 : Int) > (0 : Int))) = false), ((decide ((↑k3 : Int) > (0 : Int))) = false), ((decide ((↑k3 : Int) > (0 : Int))) = false), ((decide ((↑k3 : Int) > (0 : Int))) = false), ((decide ((↑k3 : Int) > (0 : Int))) = false), (false = false), (IntKind.min .i64 ≤ ((↑k3 : Int) + 1) ∧ ((↑k3 : Int) + 1) ≤ IntKind.max .i64)]) (by kernel_rfl) (by kernel_rfl) ⟨(decide_eq_true c23), ⟨rfl, get_lt h25⟩, (fl_ne (f := Tapi_TagState.enc) (z := 2) (fun _ => rfl) h25), (fl_sub0 (f := Tapi_TagState.enc) (z := 3) (j := k3) (fun _ => rfl) h25 rfl), rfl, (tollwayref11_Check_ret x24.Tag r26 h27), (not_f (beq_t c28)), (decide_eq_false c29), (decide_eq_false c30), (decide_eq_false c31), (decide_eq_false c32), (decide_eq_false c33), (decide_eq_false c33), (decide_eq_false c33), (decide_eq_false c33), (decide_eq_false c33), (decide_eq_false c33), (decide_eq_false c33), (decide_eq_false c33), (decide_eq_false c33), rfl, ok1 h42⟩
theorem tollwayref11_CheckAll_L2_7 (l_0 : (List Tapi_TagState)) (k3 : Nat) (c23 : (↑k3 : Int) < (↑l_0.length : Int)) (x24 : Tapi_TagState) (h25 : l_0[k3]? = some x24) (r26 : Int) (h27 : tollwayref11_Check x24.Tag = some r26) (c28 : ¬ (r26 = (0 : Int))) : Does Tryd.prog GT 0 (bodyAt Tryd.prog 15 [1, 1, 0, 1, 0, 0]) (tollwayref11_CheckAll_L2_H l_0 k3) .ret (S 50 [(2, .int .i64 18)] []) :=
  Does.of_viewM 0 400 (cs 3 ((.op none .a) :: (.br true) :: (cs 2 ((.op none (.i k3)) :: (.op none (.v [.str x24.Tag, .int .i64 x24.From, .int .i64 x24.State])) :: (cs 4 [.ret none [.str x24.Tag] (.int .i64 r26) [], .op none .a, .br true, .op none .c]))))) [] (ps := [((decide ((↑k3 : Int) < (↑l_0.length : Int))) = true), ((↑k3 : Int) = ((k3 : Nat) : Int) ∧ k3 < l_0.length), ((fl Tapi_TagState.enc l_0) ≠ []), (sub (fl Tapi_TagState.enc l_0) (k3 * 3) 3 = [.str x24.Tag, .int .i64 x24.From, .int .i64 x24.State]), ((.str x24.Tag : AV) = .str x24.Tag), (Ret Tryd.prog GT 23 [.str x24.Tag] (.int .i64 r26) []), ((!(r26 == (0 : Int))) = true)]) (by kernel_rfl) (by kernel_rfl) ⟨(decide_eq_true c23), ⟨rfl, get_lt h25⟩, (fl_ne (f := Tapi_TagState.enc) (z := 2) (fun _ => rfl) h25), (fl_sub0 (f := Tapi_TagState.enc) (z := 3) (j := k3) (fun _ => rfl) h25 rfl), rfl, (tollwayref11_Check_ret x24.Tag r26 h27), ok1 (not_t (beq_f c28))⟩
theorem tollwayref11_CheckAll_L2_8 (l_0 : (List Tapi_TagState)) (k3 : Nat) (c23 : ¬ ((↑k3 : Int) < (↑l_0.length : Int))) : Does Tryd.prog GT 0 (bodyAt Tryd.prog 15 [1, 1, 0, 1, 0, 0]) (tollwayref11_CheckAll_L2_H l_0 k3) (.exit 0) (S 50 [] []) :=
  Does.of_viewM 0 400 (cs 3 [.op none .a, .br false]) [] (ps := [((decide ((↑k3 : Int) < (↑l_0.length : Int))) = false)]) (by kernel_rfl) (by kernel_rfl) (ok1 (decide_eq_false c23))
def tollwayref11_CheckAll_L2_X (l_0 : (List Tapi_TagState)) : (Int ⊕ Unit) → AEx := fun q => match q with | Sum.inl o => .ret | Sum.inr (o) => (.exit 0)
def tollwayref11_CheckAll_L2_E (l_0 : (List Tapi_TagState)) : (Int ⊕ Unit) → St := fun q => match q with | Sum.inl o => S 50 [(2, .int .i64 o)] [] | Sum.inr (o) => S 50 [] []
theorem tollwayref11_CheckAll_L2_does (l_0 : (List Tapi_TagState)) {s : Nat} {r : Int ⊕ Unit} (h : lp (tollwayref11_CheckAll_L2_step l_0) s = some r) : Does Tryd.prog GT 0 (.loop (bodyAt Tryd.prog 15 [1, 1, 0, 1, 0, 0])) (tollwayref11_CheckAll_L2_H l_0 s) (tollwayref11_CheckAll_L2_X l_0 r) (tollwayref11_CheckAll_L2_E l_0 r) := by
  refine Does.lp (H := tollwayref11_CheckAll_L2_H l_0) (X := tollwayref11_CheckAll_L2_X l_0) (E := tollwayref11_CheckAll_L2_E l_0) (fun s s2 h => ?_) (fun s r h => ?_) h
  · revert h; revert s; intro k3 h
    unfold tollwayref11_CheckAll_L2_step at h
    try dsimp only at h
    rcases ite_some h with ⟨c23, h⟩ | ⟨c23, h⟩
    · obtain ⟨x24, h25, h⟩ := bind_some h
      obtain ⟨r26, h27, h⟩ := bind_some h
      rcases ite_some h with ⟨c28, h⟩ | ⟨c28, h⟩
      · rcases ite_some h with ⟨c29, h⟩ | ⟨c29, h⟩
        · simp at h
        · rcases ite_some h with ⟨c30, h⟩ | ⟨c30, h⟩
          · simp at h
          · rcases ite_some h with ⟨c31, h⟩ | ⟨c31, h⟩
            · simp at h
            · rcases ite_some h with ⟨c32, h⟩ | ⟨c32, h⟩
              · simp at h
              · rcases ite_some h with ⟨c33, h⟩ | ⟨c33, h⟩
                · obtain ⟨h34, h⟩ := guard_some h
                  obtain ⟨h35, h⟩ := guard_some h
                  obtain ⟨x36, h37, h⟩ := bind_some h
                  obtain ⟨r38, h39, h⟩ := bind_some h
                  rcases ite_some h with ⟨c40, h⟩ | ⟨c40, h⟩
                  · obtain ⟨h41, h⟩ := guard_some h
                    simp only [Option.some.injEq, Sum.inl.injEq] at h
                    subst h
                    have hq := tollwayref11_CheckAll_L2_4 l_0 k3 c23 x24 h25 r26 h27 c28 c29 c30 c31 c32 c33 h34 h35 x36 h37 r38 h39 c40 h41
                    first | exact hq | exact Eq.mp (by simp only [tollwayref11_CheckAll_L2_H, List.length_set] <;> rfl) hq
                  · simp at h
                · obtain ⟨h42, h⟩ := guard_some h
                  simp only [Option.some.injEq, Sum.inl.injEq] at h
                  subst h
                  have hq := tollwayref11_CheckAll_L2_6 l_0 k3 c23 x24 h25 r26 h27 c28 c29 c30 c31 c32 c33 h42
                  first | exact hq | exact Eq.mp (by simp only [tollwayref11_CheckAll_L2_H, List.length_set] <;> rfl) hq
      · simp at h
    · simp at h
  · revert h; revert s; intro k3 h
    unfold tollwayref11_CheckAll_L2_step at h
    try dsimp only at h
    rcases ite_some h with ⟨c23, h⟩ | ⟨c23, h⟩
    · obtain ⟨x24, h25, h⟩ := bind_some h
      obtain ⟨r26, h27, h⟩ := bind_some h
      rcases ite_some h with ⟨c28, h⟩ | ⟨c28, h⟩
      · rcases ite_some h with ⟨c29, h⟩ | ⟨c29, h⟩
        · simp only [Option.some.injEq, Sum.inr.injEq] at h
          subst h
          exact ⟨tollwayref11_CheckAll_L2_0 l_0 k3 c23 x24 h25 r26 h27 c28 c29, by intro q; cases q⟩
        · rcases ite_some h with ⟨c30, h⟩ | ⟨c30, h⟩
          · simp only [Option.some.injEq, Sum.inr.injEq] at h
            subst h
            exact ⟨tollwayref11_CheckAll_L2_1 l_0 k3 c23 x24 h25 r26 h27 c28 c29 c30, by intro q; cases q⟩
          · rcases ite_some h with ⟨c31, h⟩ | ⟨c31, h⟩
            · simp only [Option.some.injEq, Sum.inr.injEq] at h
              subst h
              exact ⟨tollwayref11_CheckAll_L2_2 l_0 k3 c23 x24 h25 r26 h27 c28 c29 c30 c31, by intro q; cases q⟩
            · rcases ite_some h with ⟨c32, h⟩ | ⟨c32, h⟩
              · simp only [Option.some.injEq, Sum.inr.injEq] at h
                subst h
                exact ⟨tollwayref11_CheckAll_L2_3 l_0 k3 c23 x24 h25 r26 h27 c28 c29 c30 c31 c32, by intro q; cases q⟩
              · rcases ite_some h with ⟨c33, h⟩ | ⟨c33, h⟩
                · obtain ⟨h34, h⟩ := guard_some h
                  obtain ⟨h35, h⟩ := guard_some h
                  obtain ⟨x36, h37, h⟩ := bind_some h
                  obtain ⟨r38, h39, h⟩ := bind_some h
                  rcases ite_some h with ⟨c40, h⟩ | ⟨c40, h⟩
                  · obtain ⟨h41, h⟩ := guard_some h
                    simp at h
                  · simp only [Option.some.injEq, Sum.inr.injEq] at h
                    subst h
                    exact ⟨tollwayref11_CheckAll_L2_5 l_0 k3 c23 x24 h25 r26 h27 c28 c29 c30 c31 c32 c33 h34 h35 x36 h37 r38 h39 c40, by intro q; cases q⟩
                · obtain ⟨h42, h⟩ := guard_some h
                  simp at h
      · simp only [Option.some.injEq, Sum.inr.injEq] at h
        subst h
        exact ⟨tollwayref11_CheckAll_L2_7 l_0 k3 c23 x24 h25 r26 h27 c28, by intro q; cases q⟩
    · simp only [Option.some.injEq, Sum.inr.injEq] at h
      subst h
      exact ⟨tollwayref11_CheckAll_L2_8 l_0 k3 c23, by intro q; cases q⟩
noncomputable def tollwayref11_CheckAll (l_0 : (List Tapi_TagState)) : Option Int :=
  if (↑l_0.length : Int) > (1024 : Int) then
    some 3
  else
    (lp (tollwayref11_CheckAll_L2_step l_0) (0 : Nat)).bind fun qq => match qq with
    | Sum.inl o2 =>
      some o2
    | Sum.inr (o2) =>
      some 0
theorem tollwayref11_CheckAll_0 (l_0 : (List Tapi_TagState)) (c1 : (↑l_0.length : Int) > (1024 : Int)) : Ret Tryd.prog GT 15 [.lst (fl Tapi_TagState.enc l_0) l_0.length] (.int .i64 3) [] :=
  Ret.of_view 400 (cs 3 [.op none .a, .br true, .op none .c]) [] (ps := [((decide ((↑l_0.length : Int) > (1024 : Int))) = true)]) (by kernel_rfl) (by kernel_rfl) (ok1 (decide_eq_true c1))
theorem tollwayref11_CheckAll_1 (l_0 : (List Tapi_TagState)) (c1 : ¬ ((↑l_0.length : Int) > (1024 : Int))) (o2 : Int) (hl2 : lp (tollwayref11_CheckAll_L2_step l_0) (0 : Nat) = some (Sum.inl o2)) : Ret Tryd.prog GT 15 [.lst (fl Tapi_TagState.enc l_0) l_0.length] (.int .i64 o2) [] :=
  Ret.of_view 400 (cs 3 [.op none .a, .br false, .op none .c, .fcut 0 .ret [(2, .int .i64 o2)] [] [] [(0, .lst (fl Tapi_TagState.enc l_0) l_0.length), (3, .int .i64 (↑(0 : Nat) : Int))] []]) [] (ps := [((decide ((↑l_0.length : Int) > (1024 : Int))) = false), ((.lst (fl Tapi_TagState.enc l_0) l_0.length : AV) = .lst (fl Tapi_TagState.enc l_0) l_0.length), ((.int .i64 0 : AV) = .int .i64 (↑(0 : Nat) : Int)), (Does Tryd.prog GT 0 (.loop (bodyAt Tryd.prog 15 [1, 1, 0, 1, 0, 0])) (S 50 [(0, .lst (fl Tapi_TagState.enc l_0) l_0.length), (3, .int .i64 (↑(0 : Nat) : Int))] []) .ret (S 50 [(2, .int .i64 o2)] []))]) (by kernel_rfl) (by kernel_rfl) ⟨(decide_eq_false c1), rfl, rfl, ok1 (tollwayref11_CheckAll_L2_does l_0 hl2)⟩
theorem tollwayref11_CheckAll_2 (l_0 : (List Tapi_TagState)) (c1 : ¬ ((↑l_0.length : Int) > (1024 : Int))) (o2 : Unit) (hl2 : lp (tollwayref11_CheckAll_L2_step l_0) (0 : Nat) = some (Sum.inr (o2))) : Ret Tryd.prog GT 15 [.lst (fl Tapi_TagState.enc l_0) l_0.length] (.int .i64 0) [] :=
  Ret.of_view 400 (cs 3 [.op none .a, .br false, .op none .c, .fcut 0 (.exit 0) [] [] [] [(0, .lst (fl Tapi_TagState.enc l_0) l_0.length), (3, .int .i64 (↑(0 : Nat) : Int))] [], .op none .c]) [] (ps := [((decide ((↑l_0.length : Int) > (1024 : Int))) = false), ((.lst (fl Tapi_TagState.enc l_0) l_0.length : AV) = .lst (fl Tapi_TagState.enc l_0) l_0.length), ((.int .i64 0 : AV) = .int .i64 (↑(0 : Nat) : Int)), (Does Tryd.prog GT 0 (.loop (bodyAt Tryd.prog 15 [1, 1, 0, 1, 0, 0])) (S 50 [(0, .lst (fl Tapi_TagState.enc l_0) l_0.length), (3, .int .i64 (↑(0 : Nat) : Int))] []) (.exit 0) (S 50 [] []))]) (by kernel_rfl) (by kernel_rfl) ⟨(decide_eq_false c1), rfl, rfl, ok1 (tollwayref11_CheckAll_L2_does l_0 hl2)⟩
theorem tollwayref11_CheckAll_ret (l_0 : (List Tapi_TagState)) (r : Int) (h : tollwayref11_CheckAll l_0 = some r) : Ret Tryd.prog GT 15 [.lst (fl Tapi_TagState.enc l_0) l_0.length] (.int .i64 r) [] := by
  unfold tollwayref11_CheckAll at h
  rcases ite_some h with ⟨c1, h⟩ | ⟨c1, h⟩
  · simp only [Option.some.injEq] at h
    subst h
    exact tollwayref11_CheckAll_0 l_0 c1
  · obtain ⟨qq, hl2, h⟩ := bind_some h
    rcases qq with o2 | o2
    · dsimp only at h
      simp only [Option.some.injEq] at h
      subst h
      exact tollwayref11_CheckAll_1 l_0 c1 o2 hl2
    · dsimp only at h
      simp only [Option.some.injEq] at h
      subst h
      exact tollwayref11_CheckAll_2 l_0 c1 o2 hl2
noncomputable def tollwayref11_State_L4_step (l_0 : (List Tapi_TagState)) (tag_1 : (List UInt8)) (t_2 : Int) : (Int × Nat) → Option ((Int × Nat) ⊕ Int)
  | (v7, k8) =>
    if (↑k8 : Int) < (↑l_0.length : Int) then
      (l_0[k8]?).bind fun x14 =>
      if x14.Tag = tag_1 then
        if x14.From ≤ t_2 then
          if InR .i64 ((↑k8 : Int) + 1) then
            some (Sum.inl (x14.State, (k8 + 1)))
          else none
        else
          if InR .i64 ((↑k8 : Int) + 1) then
            some (Sum.inl (v7, (k8 + 1)))
          else none
      else
        if InR .i64 ((↑k8 : Int) + 1) then
          some (Sum.inl (v7, (k8 + 1)))
        else none
    else
      some (Sum.inr v7)
def tollwayref11_State_L4_H (l_0 : (List Tapi_TagState)) (tag_1 : (List UInt8)) (t_2 : Int) : (Int × Nat) → St := fun (s : (Int × Nat)) => S 40 [(0, .lst (fl Tapi_TagState.enc l_0) l_0.length), (1, .str tag_1), (2, .int .i64 t_2), (7, .int .i64 s.1), (8, .int .i64 (↑s.2 : Int))] []
theorem tollwayref11_State_L4_0 (l_0 : (List Tapi_TagState)) (tag_1 : (List UInt8)) (t_2 : Int) (v7 : Int) (k8 : Nat) (c13 : (↑k8 : Int) < (↑l_0.length : Int)) (x14 : Tapi_TagState) (h15 : l_0[k8]? = some x14) (c16 : x14.Tag = tag_1) (c17 : x14.From ≤ t_2) (h18 : InR .i64 ((↑k8 : Int) + 1)) : Does Tryd.prog GT 0 (bodyAt Tryd.prog 17 [1, 1, 1, 0, 1, 0, 0]) (tollwayref11_State_L4_H l_0 tag_1 t_2 (v7, k8)) .normal (S 40 [(0, .lst (fl Tapi_TagState.enc l_0) l_0.length), (1, .str tag_1), (2, .int .i64 t_2), (7, .int .i64 x14.State), (8, .int .i64 ((↑k8 : Int) + 1))] []) :=
  Does.of_viewM 0 400 (cs 3 ((.op none .a) :: (.br true) :: (cs 2 ((.op none (.i k8)) :: (.op none .c) :: (.op none (.v [.str x14.Tag])) :: (.op none .c) :: (.op none .a) :: (.op none .c) :: (.op (some true) .c) :: (.op none .c) :: (.op none (.i k8)) :: (.op none .c) :: (.op none (.v [.int .i64 x14.From])) :: (.op none .c) :: (.op none .a) :: (.op none .c) :: (.br true) :: (cs 2 ((.op none (.i k8)) :: (.op none .c) :: (.op none (.v [.int .i64 x14.State])) :: (cs 2 [.op none .w, .op none .c]))))))) [] (ps := [((decide ((↑k8 : Int) < (↑l_0.length : Int))) = true), ((↑k8 : Int) = ((k8 : Nat) : Int) ∧ k8 < l_0.length), ((fl Tapi_TagState.enc l_0) ≠ []), (sub (fl Tapi_TagState.enc l_0) (k8 * 3) 1 = [.str x14.Tag]), ((x14.Tag == tag_1) = true), ((↑k8 : Int) = ((k8 : Nat) : Int) ∧ k8 < l_0.length), ((fl Tapi_TagState.enc l_0) ≠ []), (sub (fl Tapi_TagState.enc l_0) ((k8 * 3) + 1) 1 = [.int .i64 x14.From]), ((decide (x14.From ≤ t_2)) = true), ((↑k8 : Int) = ((k8 : Nat) : Int) ∧ k8 < l_0.length), ((fl Tapi_TagState.enc l_0) ≠ []), (sub (fl Tapi_TagState.enc l_0) ((k8 * 3) + 2) 1 = [.int .i64 x14.State]), (IntKind.min .i64 ≤ ((↑k8 : Int) + 1) ∧ ((↑k8 : Int) + 1) ≤ IntKind.max .i64)]) (by kernel_rfl) (by kernel_rfl) ⟨(decide_eq_true c13), ⟨rfl, get_lt h15⟩, (fl_ne (f := Tapi_TagState.enc) (z := 2) (fun _ => rfl) h15), (fl_sub (f := Tapi_TagState.enc) (z := 3) (j := k8) (a := 0) (n := 1) (fun _ => rfl) h15 (by decide) rfl), (beq_t c16), ⟨rfl, get_lt h15⟩, (fl_ne (f := Tapi_TagState.enc) (z := 2) (fun _ => rfl) h15), (fl_sub (f := Tapi_TagState.enc) (z := 3) (j := k8) (a := 1) (n := 1) (fun _ => rfl) h15 (by decide) rfl), (decide_eq_true c17), ⟨rfl, get_lt h15⟩, (fl_ne (f := Tapi_TagState.enc) (z := 2) (fun _ => rfl) h15), (fl_sub (f := Tapi_TagState.enc) (z := 3) (j := k8) (a := 2) (n := 1) (fun _ => rfl) h15 (by decide) rfl), ok1 h18⟩
theorem tollwayref11_State_L4_1 (l_0 : (List Tapi_TagState)) (tag_1 : (List UInt8)) (t_2 : Int) (v7 : Int) (k8 : Nat) (c13 : (↑k8 : Int) < (↑l_0.length : Int)) (x14 : Tapi_TagState) (h15 : l_0[k8]? = some x14) (c16 : x14.Tag = tag_1) (c17 : ¬ (x14.From ≤ t_2)) (h19 : InR .i64 ((↑k8 : Int) + 1)) : Does Tryd.prog GT 0 (bodyAt Tryd.prog 17 [1, 1, 1, 0, 1, 0, 0]) (tollwayref11_State_L4_H l_0 tag_1 t_2 (v7, k8)) .normal (S 40 [(0, .lst (fl Tapi_TagState.enc l_0) l_0.length), (1, .str tag_1), (2, .int .i64 t_2), (7, .int .i64 v7), (8, .int .i64 ((↑k8 : Int) + 1))] []) :=
  Does.of_viewM 0 400 (cs 3 ((.op none .a) :: (.br true) :: (cs 2 [.op none (.i k8), .op none .c, .op none (.v [.str x14.Tag]), .op none .c, .op none .a, .op none .c, .op (some true) .c, .op none .c, .op none (.i k8), .op none .c, .op none (.v [.int .i64 x14.From]), .op none .c, .op none .a, .op none .c, .br false, .op none .c, .op none .w, .op none .c]))) [] (ps := [((decide ((↑k8 : Int) < (↑l_0.length : Int))) = true), ((↑k8 : Int) = ((k8 : Nat) : Int) ∧ k8 < l_0.length), ((fl Tapi_TagState.enc l_0) ≠ []), (sub (fl Tapi_TagState.enc l_0) (k8 * 3) 1 = [.str x14.Tag]), ((x14.Tag == tag_1) = true), ((↑k8 : Int) = ((k8 : Nat) : Int) ∧ k8 < l_0.length), ((fl Tapi_TagState.enc l_0) ≠ []), (sub (fl Tapi_TagState.enc l_0) ((k8 * 3) + 1) 1 = [.int .i64 x14.From]), ((decide (x14.From ≤ t_2)) = false), (IntKind.min .i64 ≤ ((↑k8 : Int) + 1) ∧ ((↑k8 : Int) + 1) ≤ IntKind.max .i64)]) (by kernel_rfl) (by kernel_rfl) ⟨(decide_eq_true c13), ⟨rfl, get_lt h15⟩, (fl_ne (f := Tapi_TagState.enc) (z := 2) (fun _ => rfl) h15), (fl_sub (f := Tapi_TagState.enc) (z := 3) (j := k8) (a := 0) (n := 1) (fun _ => rfl) h15 (by decide) rfl), (beq_t c16), ⟨rfl, get_lt h15⟩, (fl_ne (f := Tapi_TagState.enc) (z := 2) (fun _ => rfl) h15), (fl_sub (f := Tapi_TagState.enc) (z := 3) (j := k8) (a := 1) (n := 1) (fun _ => rfl) h15 (by decide) rfl), (decide_eq_false c17), ok1 h19⟩
theorem tollwayref11_State_L4_2 (l_0 : (List Tapi_TagState)) (tag_1 : (List UInt8)) (t_2 : Int) (v7 : Int) (k8 : Nat) (c13 : (↑k8 : Int) < (↑l_0.length : Int)) (x14 : Tapi_TagState) (h15 : l_0[k8]? = some x14) (c16 : ¬ (x14.Tag = tag_1)) (h20 : InR .i64 ((↑k8 : Int) + 1)) : Does Tryd.prog GT 0 (bodyAt Tryd.prog 17 [1, 1, 1, 0, 1, 0, 0]) (tollwayref11_State_L4_H l_0 tag_1 t_2 (v7, k8)) .normal (S 40 [(0, .lst (fl Tapi_TagState.enc l_0) l_0.length), (1, .str tag_1), (2, .int .i64 t_2), (7, .int .i64 v7), (8, .int .i64 ((↑k8 : Int) + 1))] []) :=
  Does.of_viewM 0 400 (cs 3 ((.op none .a) :: (.br true) :: (cs 2 ((.op none (.i k8)) :: (.op none .c) :: (.op none (.v [.str x14.Tag])) :: (.op none .c) :: (.op none .a) :: (.op none .c) :: (.op (some false) .c) :: (cs 7 [.br false, .op none .c, .op none .w, .op none .c]))))) [] (ps := [((decide ((↑k8 : Int) < (↑l_0.length : Int))) = true), ((↑k8 : Int) = ((k8 : Nat) : Int) ∧ k8 < l_0.length), ((fl Tapi_TagState.enc l_0) ≠ []), (sub (fl Tapi_TagState.enc l_0) (k8 * 3) 1 = [.str x14.Tag]), ((x14.Tag == tag_1) = false), (false = false), (IntKind.min .i64 ≤ ((↑k8 : Int) + 1) ∧ ((↑k8 : Int) + 1) ≤ IntKind.max .i64)]) (by kernel_rfl) (by kernel_rfl) ⟨(decide_eq_true c13), ⟨rfl, get_lt h15⟩, (fl_ne (f := Tapi_TagState.enc) (z := 2) (fun _ => rfl) h15), (fl_sub (f := Tapi_TagState.enc) (z := 3) (j := k8) (a := 0) (n := 1) (fun _ => rfl) h15 (by decide) rfl), (beq_f c16), rfl, ok1 h20⟩
theorem tollwayref11_State_L4_3 (l_0 : (List Tapi_TagState)) (tag_1 : (List UInt8)) (t_2 : Int) (v7 : Int) (k8 : Nat) (c13 : ¬ ((↑k8 : Int) < (↑l_0.length : Int))) : Does Tryd.prog GT 0 (bodyAt Tryd.prog 17 [1, 1, 1, 0, 1, 0, 0]) (tollwayref11_State_L4_H l_0 tag_1 t_2 (v7, k8)) (.exit 0) (S 40 [(7, .int .i64 v7)] []) :=
  Does.of_viewM 0 400 (cs 3 [.op none .a, .br false]) [] (ps := [((decide ((↑k8 : Int) < (↑l_0.length : Int))) = false)]) (by kernel_rfl) (by kernel_rfl) (ok1 (decide_eq_false c13))
def tollwayref11_State_L4_X (l_0 : (List Tapi_TagState)) (tag_1 : (List UInt8)) (t_2 : Int) : Int → AEx := fun o => (.exit 0)
def tollwayref11_State_L4_E (l_0 : (List Tapi_TagState)) (tag_1 : (List UInt8)) (t_2 : Int) : Int → St := fun o => S 40 [(7, .int .i64 o)] []
theorem tollwayref11_State_L4_does (l_0 : (List Tapi_TagState)) (tag_1 : (List UInt8)) (t_2 : Int) {s : (Int × Nat)} {r : Int} (h : lp (tollwayref11_State_L4_step l_0 tag_1 t_2) s = some r) : Does Tryd.prog GT 0 (.loop (bodyAt Tryd.prog 17 [1, 1, 1, 0, 1, 0, 0])) (tollwayref11_State_L4_H l_0 tag_1 t_2 s) (tollwayref11_State_L4_X l_0 tag_1 t_2 r) (tollwayref11_State_L4_E l_0 tag_1 t_2 r) := by
  refine Does.lp (H := tollwayref11_State_L4_H l_0 tag_1 t_2) (X := tollwayref11_State_L4_X l_0 tag_1 t_2) (E := tollwayref11_State_L4_E l_0 tag_1 t_2) (fun s s2 h => ?_) (fun s r h => ?_) h
  · obtain ⟨v7, k8⟩ := s
    unfold tollwayref11_State_L4_step at h
    try dsimp only at h
    rcases ite_some h with ⟨c13, h⟩ | ⟨c13, h⟩
    · obtain ⟨x14, h15, h⟩ := bind_some h
      rcases ite_some h with ⟨c16, h⟩ | ⟨c16, h⟩
      · rcases ite_some h with ⟨c17, h⟩ | ⟨c17, h⟩
        · obtain ⟨h18, h⟩ := guard_some h
          simp only [Option.some.injEq, Sum.inl.injEq] at h
          subst h
          have hq := tollwayref11_State_L4_0 l_0 tag_1 t_2 v7 k8 c13 x14 h15 c16 c17 h18
          first | exact hq | exact Eq.mp (by simp only [tollwayref11_State_L4_H, List.length_set] <;> rfl) hq
        · obtain ⟨h19, h⟩ := guard_some h
          simp only [Option.some.injEq, Sum.inl.injEq] at h
          subst h
          have hq := tollwayref11_State_L4_1 l_0 tag_1 t_2 v7 k8 c13 x14 h15 c16 c17 h19
          first | exact hq | exact Eq.mp (by simp only [tollwayref11_State_L4_H, List.length_set] <;> rfl) hq
      · obtain ⟨h20, h⟩ := guard_some h
        simp only [Option.some.injEq, Sum.inl.injEq] at h
        subst h
        have hq := tollwayref11_State_L4_2 l_0 tag_1 t_2 v7 k8 c13 x14 h15 c16 h20
        first | exact hq | exact Eq.mp (by simp only [tollwayref11_State_L4_H, List.length_set] <;> rfl) hq
    · simp at h
  · obtain ⟨v7, k8⟩ := s
    unfold tollwayref11_State_L4_step at h
    try dsimp only at h
    rcases ite_some h with ⟨c13, h⟩ | ⟨c13, h⟩
    · obtain ⟨x14, h15, h⟩ := bind_some h
      rcases ite_some h with ⟨c16, h⟩ | ⟨c16, h⟩
      · rcases ite_some h with ⟨c17, h⟩ | ⟨c17, h⟩
        · obtain ⟨h18, h⟩ := guard_some h
          simp at h
        · obtain ⟨h19, h⟩ := guard_some h
          simp at h
      · obtain ⟨h20, h⟩ := guard_some h
        simp at h
    · simp only [Option.some.injEq, Sum.inr.injEq] at h
      subst h
      exact ⟨tollwayref11_State_L4_3 l_0 tag_1 t_2 v7 k8 c13, by intro q; cases q⟩
noncomputable def tollwayref11_State (l_0 : (List Tapi_TagState)) (tag_1 : (List UInt8)) (t_2 : Int) : Option Int :=
  (tollwayref11_Check tag_1).bind fun r1 =>
  if r1 = (0 : Int) then
    (lp (tollwayref11_State_L4_step l_0 tag_1 t_2) ((1 : Int), (0 : Nat))).bind fun o4 =>
    some o4
  else
    some 0
theorem tollwayref11_State_0 (l_0 : (List Tapi_TagState)) (tag_1 : (List UInt8)) (t_2 : Int) (r1 : Int) (h2 : tollwayref11_Check tag_1 = some r1) (c3 : r1 = (0 : Int)) (o4 : Int) (hl4 : lp (tollwayref11_State_L4_step l_0 tag_1 t_2) ((1 : Int), (0 : Nat)) = some o4) : Ret Tryd.prog GT 17 [.lst (fl Tapi_TagState.enc l_0) l_0.length, .str tag_1, .int .i64 t_2] (.int .i64 o4) [] :=
  Ret.of_view 400 (cs 2 ((.ret none [.str tag_1] (.int .i64 r1) []) :: (.op none .a) :: (.br false) :: (cs 2 ((.fcut 0 (.exit 0) [(7, .int .i64 o4)] [] [] [(0, .lst (fl Tapi_TagState.enc l_0) l_0.length), (1, .str tag_1), (2, .int .i64 t_2), (7, .int .i64 (1 : Int)), (8, .int .i64 (↑(0 : Nat) : Int))] []) :: (cs 2 []))))) [] (ps := [((.str tag_1 : AV) = .str tag_1), (Ret Tryd.prog GT 23 [.str tag_1] (.int .i64 r1) []), ((!(r1 == (0 : Int))) = false), ((.lst (fl Tapi_TagState.enc l_0) l_0.length : AV) = .lst (fl Tapi_TagState.enc l_0) l_0.length), ((.str tag_1 : AV) = .str tag_1), ((.int .i64 t_2 : AV) = .int .i64 t_2), ((.int .i64 1 : AV) = .int .i64 (1 : Int)), ((.int .i64 0 : AV) = .int .i64 (↑(0 : Nat) : Int)), (Does Tryd.prog GT 0 (.loop (bodyAt Tryd.prog 17 [1, 1, 1, 0, 1, 0, 0])) (S 40 [(0, .lst (fl Tapi_TagState.enc l_0) l_0.length), (1, .str tag_1), (2, .int .i64 t_2), (7, .int .i64 (1 : Int)), (8, .int .i64 (↑(0 : Nat) : Int))] []) (.exit 0) (S 40 [(7, .int .i64 o4)] []))]) (by kernel_rfl) (by kernel_rfl) ⟨rfl, (tollwayref11_Check_ret tag_1 r1 h2), (not_f (beq_t c3)), rfl, rfl, rfl, rfl, rfl, ok1 (tollwayref11_State_L4_does l_0 tag_1 t_2 hl4)⟩
theorem tollwayref11_State_1 (l_0 : (List Tapi_TagState)) (tag_1 : (List UInt8)) (t_2 : Int) (r1 : Int) (h2 : tollwayref11_Check tag_1 = some r1) (c3 : ¬ (r1 = (0 : Int))) : Ret Tryd.prog GT 17 [.lst (fl Tapi_TagState.enc l_0) l_0.length, .str tag_1, .int .i64 t_2] (.int .i64 0) [] :=
  Ret.of_view 400 (cs 2 [.ret none [.str tag_1] (.int .i64 r1) [], .op none .a, .br true, .op none .c]) [] (ps := [((.str tag_1 : AV) = .str tag_1), (Ret Tryd.prog GT 23 [.str tag_1] (.int .i64 r1) []), ((!(r1 == (0 : Int))) = true)]) (by kernel_rfl) (by kernel_rfl) ⟨rfl, (tollwayref11_Check_ret tag_1 r1 h2), ok1 (not_t (beq_f c3))⟩
theorem tollwayref11_State_ret (l_0 : (List Tapi_TagState)) (tag_1 : (List UInt8)) (t_2 : Int) (r : Int) (h : tollwayref11_State l_0 tag_1 t_2 = some r) : Ret Tryd.prog GT 17 [.lst (fl Tapi_TagState.enc l_0) l_0.length, .str tag_1, .int .i64 t_2] (.int .i64 r) [] := by
  unfold tollwayref11_State at h
  obtain ⟨r1, h2, h⟩ := bind_some h
  rcases ite_some h with ⟨c3, h⟩ | ⟨c3, h⟩
  · obtain ⟨o4, hl4, h⟩ := bind_some h
    simp only [Option.some.injEq] at h
    subst h
    exact tollwayref11_State_0 l_0 tag_1 t_2 r1 h2 c3 o4 hl4
  · simp only [Option.some.injEq] at h
    subst h
    exact tollwayref11_State_1 l_0 tag_1 t_2 r1 h2 c3
noncomputable def tollwayref11_Make (agency_0 : (List UInt8)) (serial_1 : Int) : Option ((List UInt8) × Int) :=
  if (↑agency_0.length : Int) = (3 : Int) then
    (tollwayref11_sum agency_0).bind fun r2 =>
    if r2 < (0 : Int) then
      some (([] : List UInt8), 30)
    else
      if serial_1 < (0 : Int) then
        some (([] : List UInt8), 2)
      else
        if serial_1 > (99999999 : Int) then
          some (([] : List UInt8), 2)
        else
          (tollwayref11_digits serial_1 8).bind fun r7 =>
          if agency_0.length + r7.length ≤ 9223372036854775807 then
            (tollwayref11_sum (agency_0 ++ r7)).bind fun r10 =>
            if InR .i64 (10 - (Int.tmod r10 10)) then
              (tollwayref11_digits (Int.tmod (10 - (Int.tmod r10 10)) 10) 1).bind fun r13 =>
              if (agency_0 ++ r7).length + r13.length ≤ 9223372036854775807 then
                some ((agency_0 ++ r7) ++ r13, 0)
              else none
            else none
          else none
  else
    some (([] : List UInt8), 30)
theorem tollwayref11_Make_0 (agency_0 : (List UInt8)) (serial_1 : Int) (c1 : (↑agency_0.length : Int) = (3 : Int)) (r2 : Int) (h3 : tollwayref11_sum agency_0 = some r2) (c4 : r2 < (0 : Int)) : Ret Tryd.prog GT 12 [.str agency_0, .int .i64 serial_1] (.tup [.str [], .int .i64 30]) [] :=
  Ret.of_view 400 (cs 4 ((.op none .a) :: (.op none .c) :: (.op (some false) .c) :: (.ret none [.str agency_0] (.int .i64 r2) []) :: (.op none .a) :: (.op none .c) :: (.br true) :: (cs 2 []))) [] (ps := [((!((↑agency_0.length : Int) == (3 : Int))) = false), ((.str agency_0 : AV) = .str agency_0), (Ret Tryd.prog GT 28 [.str agency_0] (.int .i64 r2) []), ((decide (r2 < (0 : Int))) = true)]) (by kernel_rfl) (by kernel_rfl) ⟨(not_f (beq_t c1)), rfl, (tollwayref11_sum_ret agency_0 r2 h3), ok1 (decide_eq_true c4)⟩
theorem tollwayref11_Make_1 (agency_0 : (List UInt8)) (serial_1 : Int) (c1 : (↑agency_0.length : Int) = (3 : Int)) (r2 : Int) (h3 : tollwayref11_sum agency_0 = some r2) (c4 : ¬ (r2 < (0 : Int))) (c5 : serial_1 < (0 : Int)) : Ret Tryd.prog GT 12 [.str agency_0, .int .i64 serial_1] (.tup [.str [], .int .i64 2]) [] :=
  Ret.of_view 400 (cs 4 ((.op none .a) :: (.op none .c) :: (.op (some false) .c) :: (.ret none [.str agency_0] (.int .i64 r2) []) :: (.op none .a) :: (.op none .c) :: (.br false) :: (.op none .c) :: (.op none .a) :: (.op none .c) :: (.op (some true) .c) :: (cs 2 ((.br true) :: (cs 2 []))))) [] (ps := [((!((↑agency_0.length : Int) == (3 : Int))) = false), ((.str agency_0 : AV) = .str agency_0), (Ret Tryd.prog GT 28 [.str agency_0] (.int .i64 r2) []), ((decide (r2 < (0 : Int))) = false), ((decide (serial_1 < (0 : Int))) = true), (true = true)]) (by kernel_rfl) (by kernel_rfl) ⟨(not_f (beq_t c1)), rfl, (tollwayref11_sum_ret agency_0 r2 h3), (decide_eq_false c4), (decide_eq_true c5), ok1 rfl⟩
theorem tollwayref11_Make_2 (agency_0 : (List UInt8)) (serial_1 : Int) (c1 : (↑agency_0.length : Int) = (3 : Int)) (r2 : Int) (h3 : tollwayref11_sum agency_0 = some r2) (c4 : ¬ (r2 < (0 : Int))) (c5 : ¬ (serial_1 < (0 : Int))) (c6 : serial_1 > (99999999 : Int)) : Ret Tryd.prog GT 12 [.str agency_0, .int .i64 serial_1] (.tup [.str [], .int .i64 2]) [] :=
  Ret.of_view 400 (cs 4 ((.op none .a) :: (.op none .c) :: (.op (some false) .c) :: (.ret none [.str agency_0] (.int .i64 r2) []) :: (.op none .a) :: (.op none .c) :: (.br false) :: (.op none .c) :: (.op none .a) :: (.op none .c) :: (.op (some false) .c) :: (.op none .a) :: (.op none .c) :: (.br true) :: (cs 2 []))) [] (ps := [((!((↑agency_0.length : Int) == (3 : Int))) = false), ((.str agency_0 : AV) = .str agency_0), (Ret Tryd.prog GT 28 [.str agency_0] (.int .i64 r2) []), ((decide (r2 < (0 : Int))) = false), ((decide (serial_1 < (0 : Int))) = false), ((decide (serial_1 > (99999999 : Int))) = true)]) (by kernel_rfl) (by kernel_rfl) ⟨(not_f (beq_t c1)), rfl, (tollwayref11_sum_ret agency_0 r2 h3), (decide_eq_false c4), (decide_eq_false c5), ok1 (decide_eq_true c6)⟩
theorem tollwayref11_Make_3 (agency_0 : (List UInt8)) (serial_1 : Int) (c1 : (↑agency_0.length : Int) = (3 : Int)) (r2 : Int) (h3 : tollwayref11_sum agency_0 = some r2) (c4 : ¬ (r2 < (0 : Int))) (c5 : ¬ (serial_1 < (0 : Int))) (c6 : ¬ (serial_1 > (99999999 : Int))) (r7 : (List UInt8)) (h8 : tollwayref11_digits serial_1 8 = some r7) (h9 : agency_0.length + r7.length ≤ 9223372036854775807) (r10 : Int) (h11 : tollwayref11_sum (agency_0 ++ r7) = some r10) (h12 : InR .i64 (10 - (Int.tmod r10 10))) (r13 : (List UInt8)) (h14 : tollwayref11_digits (Int.tmod (10 - (Int.tmod r10 10)) 10) 1 = some r13) (h15 : (agency_0 ++ r7).length + r13.length ≤ 9223372036854775807) : Ret Tryd.prog GT 12 [.str agency_0, .int .i64 serial_1] (.tup [.str ((agency_0 ++ r7) ++ r13), .int .i64 0]) [] :=
  Ret.of_view 400 (cs 4 ((.op none .a) :: (.op none .c) :: (.op (some false) .c) :: (.ret none [.str agency_0] (.int .i64 r2) []) :: (.op none .a) :: (.op none .c) :: (.br false) :: (.op none .c) :: (.op none .a) :: (.op none .c) :: (.op (some false) .c) :: (.op none .a) :: (.op none .c) :: (.br false) :: (cs 2 ((.ret none [.int .i64 serial_1, .int .i64 8] (.str r7) []) :: (.op none .a) :: (cs 3 ((.ret none [.str (agency_0 ++ r7)] (.int .i64 r10) []) :: (.op none .a) :: (.op none .w) :: (.op none .a) :: (.ret none [.int .i64 (Int.tmod (10 - (Int.tmod r10 10)) 10), .int .i64 1] (.str r13) []) :: (.op none .a) :: (cs 2 []))))))) [] (ps := [((!((↑agency_0.length : Int) == (3 : Int))) = false), ((.str agency_0 : AV) = .str agency_0), (Ret Tryd.prog GT 28 [.str agency_0] (.int .i64 r2) []), ((decide (r2 < (0 : Int))) = false), ((decide (serial_1 < (0 : Int))) = false), ((decide (serial_1 > (99999999 : Int))) = false), ((.int .i64 serial_1 : AV) = .int .i64 serial_1), ((.int .i64 8 : AV) = .int .i64 8), (Ret Tryd.prog GT 29 [.int .i64 serial_1, .int .i64 8] (.str r7) []), (agency_0.length + r7.length ≤ 9223372036854775807), ((.str (agency_0 ++ r7) : AV) = .str (agency_0 ++ r7)), (Ret Tryd.prog GT 28 [.str (agency_0 ++ r7)] (.int .i64 r10) []), (10 ≠ (0 : Int)), (IntKind.min .i64 ≤ (10 - (Int.tmod r10 10)) ∧ (10 - (Int.tmod r10 10)) ≤ IntKind.max .i64), (10 ≠ (0 : Int)), ((.int .i64 (Int.tmod (10 - (Int.tmod r10 10)) 10) : AV) = .int .i64 (Int.tmod (10 - (Int.tmod r10 10)) 10)), ((.int .i64 1 : AV) = .int .i64 1), (Ret Tryd.prog GT 29 [.int .i64 (Int.tmod (10 - (Int.tmod r10 10)) 10), .int .i64 1] (.str r13) []), ((agency_0 ++ r7).length + r13.length ≤ 9223372036854775807)]) (by kernel_rfl) (by kernel_rfl) ⟨(not_f (beq_t c1)), rfl, (tollwayref11_sum_ret agency_0 r2 h3), (decide_eq_false c4), (decide_eq_false c5), (decide_eq_false c6), rfl, rfl, (tollwayref11_digits_ret serial_1 8 r7 h8), h9, rfl, (tollwayref11_sum_ret (agency_0 ++ r7) r10 h11), (by decide), h12, (by decide), rfl, rfl, (tollwayref11_digits_ret (Int.tmod (10 - (Int.tmod r10 10)) 10) 1 r13 h14), ok1 h15⟩
theorem tollwayref11_Make_4 (agency_0 : (List UInt8)) (serial_1 : Int) (c1 : ¬ ((↑agency_0.length : Int) = (3 : Int))) : Ret Tryd.prog GT 12 [.str agency_0, .int .i64 serial_1] (.tup [.str [], .int .i64 30]) [] :=
  Ret.of_view 400 (cs 4 ((.op none .a) :: (.op none .c) :: (.op (some true) .c) :: (cs 3 ((.br true) :: (cs 2 []))))) [] (ps := [((!((↑agency_0.length : Int) == (3 : Int))) = true), (true = true)]) (by kernel_rfl) (by kernel_rfl) ⟨(not_t (beq_f c1)), ok1 rfl⟩
theorem tollwayref11_Make_ret (agency_0 : (List UInt8)) (serial_1 : Int) (r : ((List UInt8) × Int)) (h : tollwayref11_Make agency_0 serial_1 = some r) : Ret Tryd.prog GT 12 [.str agency_0, .int .i64 serial_1] (.tup [.str r.1, .int .i64 r.2]) [] := by
  unfold tollwayref11_Make at h
  rcases ite_some h with ⟨c1, h⟩ | ⟨c1, h⟩
  · obtain ⟨r2, h3, h⟩ := bind_some h
    rcases ite_some h with ⟨c4, h⟩ | ⟨c4, h⟩
    · simp only [Option.some.injEq] at h
      subst h
      exact tollwayref11_Make_0 agency_0 serial_1 c1 r2 h3 c4
    · rcases ite_some h with ⟨c5, h⟩ | ⟨c5, h⟩
      · simp only [Option.some.injEq] at h
        subst h
        exact tollwayref11_Make_1 agency_0 serial_1 c1 r2 h3 c4 c5
      · rcases ite_some h with ⟨c6, h⟩ | ⟨c6, h⟩
        · simp only [Option.some.injEq] at h
          subst h
          exact tollwayref11_Make_2 agency_0 serial_1 c1 r2 h3 c4 c5 c6
        · obtain ⟨r7, h8, h⟩ := bind_some h
          obtain ⟨h9, h⟩ := guard_some h
          obtain ⟨r10, h11, h⟩ := bind_some h
          obtain ⟨h12, h⟩ := guard_some h
          obtain ⟨r13, h14, h⟩ := bind_some h
          obtain ⟨h15, h⟩ := guard_some h
          simp only [Option.some.injEq] at h
          subst h
          exact tollwayref11_Make_3 agency_0 serial_1 c1 r2 h3 c4 c5 c6 r7 h8 h9 r10 h11 h12 r13 h14 h15
  · simp only [Option.some.injEq] at h
    subst h
    exact tollwayref11_Make_4 agency_0 serial_1 c1
end Go.Proofs.YtalobodhbbkgdaaDoor.Av
