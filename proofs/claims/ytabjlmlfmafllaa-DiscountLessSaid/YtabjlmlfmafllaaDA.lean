import Derived.Test.YtabjlmlfmafllaaAvX
import Derived.Test.YtabjlmlfmafllaaProg
import Derived.Tactics
import Derived.Test.YtabjlmlfmafllaaD0
set_option linter.unusedVariables false
set_option linter.unusedSimpArgs false
set_option maxHeartbeats 4000000
namespace Go.Proofs.Ytabjlmlfmafllaa.Av
open Go Go.Proofs
noncomputable def math_bits_Mul64 (x_0 : Int) (y_1 : Int) : Option (Int × Int) :=
  (some (IntKind.wrap .u64 ((BitVec.ofInt (IntKind.bits .u64) x_0 &&& BitVec.ofInt (IntKind.bits .u64) 4294967295).toNat : Int))).bind fun y1 =>
  (some (IntKind.wrap .u64 ((BitVec.ofInt (IntKind.bits .u64) y_1 &&& BitVec.ofInt (IntKind.bits .u64) 4294967295).toNat : Int))).bind fun y3 =>
  if InR .u64 (y1 * y3) then
    if InR .u64 ((Int.fdiv x_0 (2 ^ (min (Int.toNat 32) (IntKind.bits .u64)))) * y3) then
      if InR .u64 (((Int.fdiv x_0 (2 ^ (min (Int.toNat 32) (IntKind.bits .u64)))) * y3) + (Int.fdiv (y1 * y3) (2 ^ (min (Int.toNat 32) (IntKind.bits .u64))))) then
        (some (((Int.fdiv x_0 (2 ^ (min (Int.toNat 32) (IntKind.bits .u64)))) * y3) + (Int.fdiv (y1 * y3) (2 ^ (min (Int.toNat 32) (IntKind.bits .u64)))))).bind fun y8 =>
        (some (IntKind.wrap .u64 ((BitVec.ofInt (IntKind.bits .u64) y8 &&& BitVec.ofInt (IntKind.bits .u64) 4294967295).toNat : Int))).bind fun y10 =>
        if InR .u64 (y1 * (Int.fdiv y_1 (2 ^ (min (Int.toNat 32) (IntKind.bits .u64))))) then
          if InR .u64 (y10 + (y1 * (Int.fdiv y_1 (2 ^ (min (Int.toNat 32) (IntKind.bits .u64)))))) then
            (some (y10 + (y1 * (Int.fdiv y_1 (2 ^ (min (Int.toNat 32) (IntKind.bits .u64))))))).bind fun y14 =>
            if InR .u64 ((Int.fdiv x_0 (2 ^ (min (Int.toNat 32) (IntKind.bits .u64)))) * (Int.fdiv y_1 (2 ^ (min (Int.toNat 32) (IntKind.bits .u64))))) then
              (some ((Int.fdiv x_0 (2 ^ (min (Int.toNat 32) (IntKind.bits .u64)))) * (Int.fdiv y_1 (2 ^ (min (Int.toNat 32) (IntKind.bits .u64)))))).bind fun y17 =>
              if InR .u64 (y17 + (Int.fdiv y8 (2 ^ (min (Int.toNat 32) (IntKind.bits .u64))))) then
                if InR .u64 ((y17 + (Int.fdiv y8 (2 ^ (min (Int.toNat 32) (IntKind.bits .u64))))) + (Int.fdiv y14 (2 ^ (min (Int.toNat 32) (IntKind.bits .u64))))) then
                  (some ((y17 + (Int.fdiv y8 (2 ^ (min (Int.toNat 32) (IntKind.bits .u64))))) + (Int.fdiv y14 (2 ^ (min (Int.toNat 32) (IntKind.bits .u64)))))).bind fun y21 =>
                  some (y21, (IntKind.wrap .u64 (x_0 * y_1)))
                else none
              else none
            else none
          else none
        else none
      else none
    else none
  else none
theorem math_bits_Mul64_0 (x_0 : Int) (y_1 : Int) (y1 : Int) (h2 : some (IntKind.wrap .u64 ((BitVec.ofInt (IntKind.bits .u64) x_0 &&& BitVec.ofInt (IntKind.bits .u64) 4294967295).toNat : Int)) = some y1) (y3 : Int) (h4 : some (IntKind.wrap .u64 ((BitVec.ofInt (IntKind.bits .u64) y_1 &&& BitVec.ofInt (IntKind.bits .u64) 4294967295).toNat : Int)) = some y3) (h5 : InR .u64 (y1 * y3)) (h6 : InR .u64 ((Int.fdiv x_0 (2 ^ (min (Int.toNat 32) (IntKind.bits .u64)))) * y3)) (h7 : InR .u64 (((Int.fdiv x_0 (2 ^ (min (Int.toNat 32) (IntKind.bits .u64)))) * y3) + (Int.fdiv (y1 * y3) (2 ^ (min (Int.toNat 32) (IntKind.bits .u64)))))) (y8 : Int) (h9 : some (((Int.fdiv x_0 (2 ^ (min (Int.toNat 32) (IntKind.bits .u64)))) * y3) + (Int.fdiv (y1 * y3) (2 ^ (min (Int.toNat 32) (IntKind.bits .u64))))) = some y8) (y10 : Int) (h11 : some (IntKind.wrap .u64 ((BitVec.ofInt (IntKind.bits .u64) y8 &&& BitVec.ofInt (IntKind.bits .u64) 4294967295).toNat : Int)) = some y10) (h12 : InR .u64 (y1 * (Int.fdiv y_1 (2 ^ (min (Int.toNat 32) (IntKind.bits .u64)))))) (h13 : InR .u64 (y10 + (y1 * (Int.fdiv y_1 (2 ^ (min (Int.toNat 32) (IntKind.bits .u64))))))) (y14 : Int) (h15 : some (y10 + (y1 * (Int.fdiv y_1 (2 ^ (min (Int.toNat 32) (IntKind.bits .u64)))))) = some y14) (h16 : InR .u64 ((Int.fdiv x_0 (2 ^ (min (Int.toNat 32) (IntKind.bits .u64)))) * (Int.fdiv y_1 (2 ^ (min (Int.toNat 32) (IntKind.bits .u64)))))) (y17 : Int) (h18 : some ((Int.fdiv x_0 (2 ^ (min (Int.toNat 32) (IntKind.bits .u64)))) * (Int.fdiv y_1 (2 ^ (min (Int.toNat 32) (IntKind.bits .u64))))) = some y17) (h19 : InR .u64 (y17 + (Int.fdiv y8 (2 ^ (min (Int.toNat 32) (IntKind.bits .u64)))))) (h20 : InR .u64 ((y17 + (Int.fdiv y8 (2 ^ (min (Int.toNat 32) (IntKind.bits .u64))))) + (Int.fdiv y14 (2 ^ (min (Int.toNat 32) (IntKind.bits .u64)))))) (y21 : Int) (h22 : some ((y17 + (Int.fdiv y8 (2 ^ (min (Int.toNat 32) (IntKind.bits .u64))))) + (Int.fdiv y14 (2 ^ (min (Int.toNat 32) (IntKind.bits .u64))))) = some y21) : Ret Try.prog G0 43 [.int .u64 x_0, .int .u64 y_1] (.tup [.int .u64 y21, .int .u64 (IntKind.wrap .u64 (x_0 * y_1))]) [] :=
  Ret.of_view 400 (cs 3 ((.op none .a) :: (.tr (.eqt (.t 15) (.int .u64 y1))) :: (cs 2 ((.op none .a) :: (cs 2 ((.op none .a) :: (.tr (.eqt (.t 19) (.int .u64 y3))) :: (cs 2 ((.op none .a) :: (cs 3 ((.op none .w) :: (cs 3 ((.op none .w) :: (.op none .c) :: (.op none .a) :: (.op none .w) :: (.tr (.eqt (.t 30) (.int .u64 y8))) :: (cs 2 ((.op none .a) :: (.tr (.eqt (.t 32) (.int .u64 y10))) :: (cs 2 ((.op none .a) :: (cs 4 ((.op none .w) :: (.op none .w) :: (.tr (.eqt (.t 39) (.int .u64 y14))) :: (cs 3 ((.op none .w) :: (.tr (.eqt (.t 42) (.int .u64 y17))) :: (.op none .c) :: (.op none .w) :: (.op none .c) :: (.op none .a) :: (.op none .w) :: (.tr (.eqt (.t 47) (.int .u64 y21))) :: (cs 3 [.op none .a, .op none .c]))))))))))))))))))))) [] (ps := [((.int .u64 (IntKind.wrap .u64 ((BitVec.ofInt (IntKind.bits .u64) x_0 &&& BitVec.ofInt (IntKind.bits .u64) 4294967295).toNat : Int)) : AV) = .int .u64 y1), ((0 : Int) ≤ 32), ((.int .u64 (IntKind.wrap .u64 ((BitVec.ofInt (IntKind.bits .u64) y_1 &&& BitVec.ofInt (IntKind.bits .u64) 4294967295).toNat : Int)) : AV) = .int .u64 y3), ((0 : Int) ≤ 32), (IntKind.min .u64 ≤ (y1 * y3) ∧ (y1 * y3) ≤ IntKind.max .u64), (IntKind.min .u64 ≤ ((Int.fdiv x_0 (2 ^ (min (Int.toNat 32) (IntKind.bits .u64)))) * y3) ∧ ((Int.fdiv x_0 (2 ^ (min (Int.toNat 32) (IntKind.bits .u64)))) * y3) ≤ IntKind.max .u64), ((0 : Int) ≤ 32), (IntKind.min .u64 ≤ (((Int.fdiv x_0 (2 ^ (min (Int.toNat 32) (IntKind.bits .u64)))) * y3) + (Int.fdiv (y1 * y3) (2 ^ (min (Int.toNat 32) (IntKind.bits .u64))))) ∧ (((Int.fdiv x_0 (2 ^ (min (Int.toNat 32) (IntKind.bits .u64)))) * y3) + (Int.fdiv (y1 * y3) (2 ^ (min (Int.toNat 32) (IntKind.bits .u64))))) ≤ IntKind.max .u64), ((.int .u64 (((Int.fdiv x_0 (2 ^ (min (Int.toNat 32) (IntKind.bits .u64)))) * y3) + (Int.fdiv (y1 * y3) (2 ^ (min (Int.toNat 32) (IntKind.bits .u64))))) : AV) = .int .u64 y8), ((.int .u64 (IntKind.wrap .u64 ((BitVec.ofInt (IntKind.bits .u64) y8 &&& BitVec.ofInt (IntKind.bits .u64) 4294967295).toNat : Int)) : AV) = .int .u64 y10), ((0 : Int) ≤ 32), (IntKind.min .u64 ≤ (y1 * (Int.fdiv y_1 (2 ^ (min (Int.toNat 32) (IntKind.bits .u64))))) ∧ (y1 * (Int.fdiv y_1 (2 ^ (min (Int.toNat 32) (IntKind.bits .u64))))) ≤ IntKind.max .u64), (IntKind.min .u64 ≤ (y10 + (y1 * (Int.fdiv y_1 (2 ^ (min (Int.toNat 32) (IntKind.bits .u64)))))) ∧ (y10 + (y1 * (Int.fdiv y_1 (2 ^ (min (Int.toNat 32) (IntKind.bits .u64)))))) ≤ IntKind.max .u64), ((.int .u64 (y10 + (y1 * (Int.fdiv y_1 (2 ^ (min (Int.toNat 32) (IntKind.bits .u64)))))) : AV) = .int .u64 y14), (IntKind.min .u64 ≤ ((Int.fdiv x_0 (2 ^ (min (Int.toNat 32) (IntKind.bits .u64)))) * (Int.fdiv y_1 (2 ^ (min (Int.toNat 32) (IntKind.bits .u64))))) ∧ ((Int.fdiv x_0 (2 ^ (min (Int.toNat 32) (IntKind.bits .u64)))) * (Int.fdiv y_1 (2 ^ (min (Int.toNat 32) (IntKind.bits .u64))))) ≤ IntKind.max .u64), ((.int .u64 ((Int.fdiv x_0 (2 ^ (min (Int.toNat 32) (IntKind.bits .u64)))) * (Int.fdiv y_1 (2 ^ (min (Int.toNat 32) (IntKind.bits .u64))))) : AV) = .int .u64 y17), (IntKind.min .u64 ≤ (y17 + (Int.fdiv y8 (2 ^ (min (Int.toNat 32) (IntKind.bits .u64))))) ∧ (y17 + (Int.fdiv y8 (2 ^ (min (Int.toNat 32) (IntKind.bits .u64))))) ≤ IntKind.max .u64), ((0 : Int) ≤ 32), (IntKind.min .u64 ≤ ((y17 + (Int.fdiv y8 (2 ^ (min (Int.toNat 32) (IntKind.bits .u64))))) + (Int.fdiv y14 (2 ^ (min (Int.toNat 32) (IntKind.bits .u64))))) ∧ ((y17 + (Int.fdiv y8 (2 ^ (min (Int.toNat 32) (IntKind.bits .u64))))) + (Int.fdiv y14 (2 ^ (min (Int.toNat 32) (IntKind.bits .u64))))) ≤ IntKind.max .u64), ((.int .u64 ((y17 + (Int.fdiv y8 (2 ^ (min (Int.toNat 32) (IntKind.bits .u64))))) + (Int.fdiv y14 (2 ^ (min (Int.toNat 32) (IntKind.bits .u64))))) : AV) = .int .u64 y21)]) (by kernel_rfl) (by kernel_rfl) ⟨(congrArg _ (Option.some.inj h2)), (by decide), (congrArg _ (Option.some.inj h4)), (by decide), h5, h6, (by decide), h7, (congrArg _ (Option.some.inj h9)), (congrArg _ (Option.some.inj h11)), (by decide), h12, h13, (congrArg _ (Option.some.inj h15)), h16, (congrArg _ (Option.some.inj h18)), h19, (by decide), h20, ok1 (congrArg _ (Option.some.inj h22))⟩
theorem math_bits_Mul64_ret (x_0 : Int) (y_1 : Int) (r : (Int × Int)) (h : math_bits_Mul64 x_0 y_1 = some r) : Ret Try.prog G0 43 [.int .u64 x_0, .int .u64 y_1] (.tup [.int .u64 r.1, .int .u64 r.2]) [] := by
  unfold math_bits_Mul64 at h
  obtain ⟨y1, h2, h⟩ := bind_some h
  obtain ⟨y3, h4, h⟩ := bind_some h
  obtain ⟨h5, h⟩ := guard_some h
  obtain ⟨h6, h⟩ := guard_some h
  obtain ⟨h7, h⟩ := guard_some h
  obtain ⟨y8, h9, h⟩ := bind_some h
  obtain ⟨y10, h11, h⟩ := bind_some h
  obtain ⟨h12, h⟩ := guard_some h
  obtain ⟨h13, h⟩ := guard_some h
  obtain ⟨y14, h15, h⟩ := bind_some h
  obtain ⟨h16, h⟩ := guard_some h
  obtain ⟨y17, h18, h⟩ := bind_some h
  obtain ⟨h19, h⟩ := guard_some h
  obtain ⟨h20, h⟩ := guard_some h
  obtain ⟨y21, h22, h⟩ := bind_some h
  simp only [Option.some.injEq] at h
  subst h
  exact math_bits_Mul64_0 x_0 y_1 y1 h2 y3 h4 h5 h6 h7 y8 h9 y10 h11 h12 h13 y14 h15 h16 y17 h18 h19 h20 y21 h22
noncomputable def money_Fits (n_0 : Int) : Option Bool :=
  if n_0 ≥ (-1125899906842624 : Int) then
    some (decide (n_0 ≤ (1125899906842624 : Int)))
  else
    some false
def money_Fits_h1  : List CH := (cs 2 [.op none .a, .op none .c])
theorem money_Fits_0 (n_0 : Int) (c1 : n_0 ≥ (-1125899906842624 : Int)) : Ret Try.prog G0 41 [.int .i64 n_0] (.bool (decide (n_0 ≤ (1125899906842624 : Int)))) [] :=
  Ret.of_view 400 ((money_Fits_h1) ++ ((.op (some true) .c) :: (.op none .a) :: (cs 2 []))) [] (ps := [((decide (n_0 ≥ (-1125899906842624 : Int))) = true)]) (by kernel_rfl) (by kernel_rfl) (ok1 (decide_eq_true c1))
theorem money_Fits_1 (n_0 : Int) (c1 : ¬ (n_0 ≥ (-1125899906842624 : Int))) : Ret Try.prog G0 41 [.int .i64 n_0] (.bool false) [] :=
  Ret.of_view 400 ((money_Fits_h1) ++ ((.op (some false) .c) :: (cs 3 []))) [] (ps := [((decide (n_0 ≥ (-1125899906842624 : Int))) = false)]) (by kernel_rfl) (by kernel_rfl) (ok1 (decide_eq_false c1))
theorem money_Fits_ret (n_0 : Int) (r : Bool) (h : money_Fits n_0 = some r) : Ret Try.prog G0 41 [.int .i64 n_0] (.bool r) [] := by
  unfold money_Fits at h
  rcases ite_some h with ⟨c1, h⟩ | ⟨c1, h⟩
  · simp only [Option.some.injEq] at h
    subst h
    exact money_Fits_0 n_0 c1
  · simp only [Option.some.injEq] at h
    subst h
    exact money_Fits_1 n_0 c1
noncomputable def money_size (n_0 : Int) : Option Int :=
  if n_0 < (0 : Int) then
    some (IntKind.wrap .u64 (0 - (IntKind.wrap .u64 (n_0))))
  else
    some (IntKind.wrap .u64 (n_0))
def money_size_h1  : List CH := (cs 2 [.op none .a])
theorem money_size_0 (n_0 : Int) (c1 : n_0 < (0 : Int)) : Ret Try.prog G0 42 [.int .i64 n_0] (.int .u64 (IntKind.wrap .u64 (0 - (IntKind.wrap .u64 (n_0))))) [] :=
  Ret.of_view 400 ((money_size_h1) ++ [.br true, .op none .c, .op none .a, .op none .a, .op none .c]) [] (ps := [((decide (n_0 < (0 : Int))) = true)]) (by kernel_rfl) (by kernel_rfl) (ok1 (decide_eq_true c1))
theorem money_size_1 (n_0 : Int) (c1 : ¬ (n_0 < (0 : Int))) : Ret Try.prog G0 42 [.int .i64 n_0] (.int .u64 (IntKind.wrap .u64 (n_0))) [] :=
  Ret.of_view 400 ((money_size_h1) ++ [.br false, .op none .c, .op none .a, .op none .c]) [] (ps := [((decide (n_0 < (0 : Int))) = false)]) (by kernel_rfl) (by kernel_rfl) (ok1 (decide_eq_false c1))
theorem money_size_ret (n_0 : Int) (r : Int) (h : money_size n_0 = some r) : Ret Try.prog G0 42 [.int .i64 n_0] (.int .u64 r) [] := by
  unfold money_size at h
  rcases ite_some h with ⟨c1, h⟩ | ⟨c1, h⟩
  · simp only [Option.some.injEq] at h
    subst h
    exact money_size_0 n_0 c1
  · simp only [Option.some.injEq] at h
    subst h
    exact money_size_1 n_0 c1
noncomputable def math_bits_Div64_L29_step (y_2 : Int) (r6 : Int) (y11 : Int) (y13 : Int) (y18 : Int) (y21 : Int) (y23 : Int) : (Int × Int) → Option ((Int × Int) ⊕ Int)
  | (v15, v16) =>
    if v15 ≥ (4294967296 : Int) then
      if InR .u64 (v15 - 1) then
        if InR .u64 (v16 + y11) then
          if (v16 + y11) ≥ (4294967296 : Int) then
            some (Sum.inr (v15 - 1))
          else
            some (Sum.inl ((v15 - 1), (v16 + y11)))
        else none
      else none
    else
      if InR .u64 (v15 * y13) then
        if InR .u64 (4294967296 * v16) then
          if InR .u64 ((4294967296 * v16) + y21) then
            if (v15 * y13) > ((4294967296 * v16) + y21) then
              if InR .u64 (v15 - 1) then
                if InR .u64 (v16 + y11) then
                  if (v16 + y11) ≥ (4294967296 : Int) then
                    some (Sum.inr (v15 - 1))
                  else
                    some (Sum.inl ((v15 - 1), (v16 + y11)))
                else none
              else none
            else
              some (Sum.inr v15)
          else none
        else none
      else none
def math_bits_Div64_L29_H (y_2 : Int) (r6 : Int) (y11 : Int) (y13 : Int) (y18 : Int) (y21 : Int) (y23 : Int) : (Int × Int) → St := fun (s : (Int × Int)) => S 135 [(2, .int .u64 (y_2 * 2 ^ (min (Int.toNat r6) (IntKind.bits .u64)))), (8, .int .u64 r6), (9, .int .u64 y11), (10, .int .u64 y13), (11, .int .u64 y18), (13, .int .u64 y21), (14, .int .u64 y23), (15, .int .u64 s.1), (16, .int .u64 s.2)] []
theorem math_bits_Div64_L29_0 (y_2 : Int) (r6 : Int) (y11 : Int) (y13 : Int) (y18 : Int) (y21 : Int) (y23 : Int) (v15 : Int) (v16 : Int) (c41 : v15 ≥ (4294967296 : Int)) (h42 : InR .u64 (v15 - 1)) (h43 : InR .u64 (v16 + y11)) (c44 : (v16 + y11) ≥ (4294967296 : Int)) : Does Try.prog G0 0 (bodyAt Try.prog 44 [1, 1, 1, 1, 1, 1, 1, 1, 1, 1, 1, 1, 1, 1, 0, 0, 0]) (math_bits_Div64_L29_H y_2 r6 y11 y13 y18 y21 y23 (v15, v16)) (.exit 0) (S 135 [(2, .int .u64 (y_2 * 2 ^ (min (Int.toNat r6) (IntKind.bits .u64)))), (8, .int .u64 r6), (9, .int .u64 y11), (10, .int .u64 y13), (11, .int .u64 y18), (13, .int .u64 y21), (14, .int .u64 y23), (15, .int .u64 (v15 - 1))] []) :=
  Does.of_viewM 0 400 ((.op none .c) :: (.op none .a) :: (.op none .c) :: (.op (some true) .c) :: (cs 8 ((.br true) :: (.op none .c) :: (.op none .w) :: (cs 3 ((.op none .w) :: (cs 2 [.op none .a, .br true])))))) [] (ps := [((decide (v15 ≥ (4294967296 : Int))) = true), (true = true), (IntKind.min .u64 ≤ (v15 - 1) ∧ (v15 - 1) ≤ IntKind.max .u64), (IntKind.min .u64 ≤ (v16 + y11) ∧ (v16 + y11) ≤ IntKind.max .u64), ((decide ((v16 + y11) ≥ (4294967296 : Int))) = true)]) (by kernel_rfl) (by kernel_rfl) ⟨(decide_eq_true c41), rfl, h42, h43, ok1 (decide_eq_true c44)⟩
theorem math_bits_Div64_L29_1 (y_2 : Int) (r6 : Int) (y11 : Int) (y13 : Int) (y18 : Int) (y21 : Int) (y23 : Int) (v15 : Int) (v16 : Int) (c41 : v15 ≥ (4294967296 : Int)) (h42 : InR .u64 (v15 - 1)) (h43 : InR .u64 (v16 + y11)) (c44 : ¬ ((v16 + y11) ≥ (4294967296 : Int))) : Does Try.prog G0 0 (bodyAt Try.prog 44 [1, 1, 1, 1, 1, 1, 1, 1, 1, 1, 1, 1, 1, 1, 0, 0, 0]) (math_bits_Div64_L29_H y_2 r6 y11 y13 y18 y21 y23 (v15, v16)) .normal (S 135 [(2, .int .u64 (y_2 * 2 ^ (min (Int.toNat r6) (IntKind.bits .u64)))), (8, .int .u64 r6), (9, .int .u64 y11), (10, .int .u64 y13), (11, .int .u64 y18), (13, .int .u64 y21), (14, .int .u64 y23), (15, .int .u64 (v15 - 1)), (16, .int .u64 (v16 + y11))] []) :=
  Does.of_viewM 0 400 ((.op none .c) :: (.op none .a) :: (.op none .c) :: (.op (some true) .c) :: (cs 8 ((.br true) :: (.op none .c) :: (.op none .w) :: (cs 3 ((.op none .w) :: (cs 2 [.op none .a, .br false])))))) [] (ps := [((decide (v15 ≥ (4294967296 : Int))) = true), (true = true), (IntKind.min .u64 ≤ (v15 - 1) ∧ (v15 - 1) ≤ IntKind.max .u64), (IntKind.min .u64 ≤ (v16 + y11) ∧ (v16 + y11) ≤ IntKind.max .u64), ((decide ((v16 + y11) ≥ (4294967296 : Int))) = false)]) (by kernel_rfl) (by kernel_rfl) ⟨(decide_eq_true c41), rfl, h42, h43, ok1 (decide_eq_false c44)⟩
theorem math_bits_Div64_L29_2 (y_2 : Int) (r6 : Int) (y11 : Int) (y13 : Int) (y18 : Int) (y21 : Int) (y23 : Int) (v15 : Int) (v16 : Int) (c41 : ¬ (v15 ≥ (4294967296 : Int))) (h45 : InR .u64 (v15 * y13)) (h46 : InR .u64 (4294967296 * v16)) (h47 : InR .u64 ((4294967296 * v16) + y21)) (c48 : (v15 * y13) > ((4294967296 * v16) + y21)) (h49 : InR .u64 (v15 - 1)) (h50 : InR .u64 (v16 + y11)) (c51 : (v16 + y11) ≥ (4294967296 : Int)) : Does Try.prog G0 0 (bodyAt Try.prog 44 [1, 1, 1, 1, 1, 1, 1, 1, 1, 1, 1, 1, 1, 1, 0, 0, 0]) (math_bits_Div64_L29_H y_2 r6 y11 y13 y18 y21 y23 (v15, v16)) (.exit 0) (S 135 [(2, .int .u64 (y_2 * 2 ^ (min (Int.toNat r6) (IntKind.bits .u64)))), (8, .int .u64 r6), (9, .int .u64 y11), (10, .int .u64 y13), (11, .int .u64 y18), (13, .int .u64 y21), (14, .int .u64 y23), (15, .int .u64 (v15 - 1))] []) :=
  Does.of_viewM 0 400 ((.op none .c) :: (.op none .a) :: (.op none .c) :: (.op (some false) .c) :: (.op none .c) :: (.op none .w) :: (.op none .c) :: (.op none .w) :: (.op none .c) :: (.op none .w) :: (.op none .a) :: (.op none .c) :: (.br true) :: (.op none .c) :: (.op none .w) :: (cs 3 ((.op none .w) :: (cs 2 [.op none .a, .br true])))) [] (ps := [((decide (v15 ≥ (4294967296 : Int))) = false), (IntKind.min .u64 ≤ (v15 * y13) ∧ (v15 * y13) ≤ IntKind.max .u64), (IntKind.min .u64 ≤ (4294967296 * v16) ∧ (4294967296 * v16) ≤ IntKind.max .u64), (IntKind.min .u64 ≤ ((4294967296 * v16) + y21) ∧ ((4294967296 * v16) + y21) ≤ IntKind.max .u64), ((decide ((v15 * y13) > ((4294967296 * v16) + y21))) = true), (IntKind.min .u64 ≤ (v15 - 1) ∧ (v15 - 1) ≤ IntKind.max .u64), (IntKind.min .u64 ≤ (v16 + y11) ∧ (v16 + y11) ≤ IntKind.max .u64), ((decide ((v16 + y11) ≥ (4294967296 : Int))) = true)]) (by kernel_rfl) (by kernel_rfl) ⟨(decide_eq_false c41), h45, h46, h47, (decide_eq_true c48), h49, h50, ok1 (decide_eq_true c51)⟩
theorem math_bits_Div64_L29_3 (y_2 : Int) (r6 : Int) (y11 : Int) (y13 : Int) (y18 : Int) (y21 : Int) (y23 : Int) (v15 : Int) (v16 : Int) (c41 : ¬ (v15 ≥ (4294967296 : Int))) (h45 : InR .u64 (v15 * y13)) (h46 : InR .u64 (4294967296 * v16)) (h47 : InR .u64 ((4294967296 * v16) + y21)) (c48 : (v15 * y13) > ((4294967296 * v16) + y21)) (h49 : InR .u64 (v15 - 1)) (h50 : InR .u64 (v16 + y11)) (c51 : ¬ ((v16 + y11) ≥ (4294967296 : Int))) : Does Try.prog G0 0 (bodyAt Try.prog 44 [1, 1, 1, 1, 1, 1, 1, 1, 1, 1, 1, 1, 1, 1, 0, 0, 0]) (math_bits_Div64_L29_H y_2 r6 y11 y13 y18 y21 y23 (v15, v16)) .normal (S 135 [(2, .int .u64 (y_2 * 2 ^ (min (Int.toNat r6) (IntKind.bits .u64)))), (8, .int .u64 r6), (9, .int .u64 y11), (10, .int .u64 y13), (11, .int .u64 y18), (13, .int .u64 y21), (14, .int .u64 y23), (15, .int .u64 (v15 - 1)), (16, .int .u64 (v16 + y11))] []) :=
  Does.of_viewM 0 400 ((.op none .c) :: (.op none .a) :: (.op none .c) :: (.op (some false) .c) :: (.op none .c) :: (.op none .w) :: (.op none .c) :: (.op none .w) :: (.op none .c) :: (.op none .w) :: (.op none .a) :: (.op none .c) :: (.br true) :: (.op none .c) :: (.op none .w) :: (cs 3 ((.op none .w) :: (cs 2 [.op none .a, .br false])))) [] (ps := [((decide (v15 ≥ (4294967296 : Int))) = false), (IntKind.min .u64 ≤ (v15 * y13) ∧ (v15 * y13) ≤ IntKind.max .u64), (IntKind.min .u64 ≤ (4294967296 * v16) ∧ (4294967296 * v16) ≤ IntKind.max .u64), (IntKind.min .u64 ≤ ((4294967296 * v16) + y21) ∧ ((4294967296 * v16) + y21) ≤ IntKind.max .u64), ((decide ((v15 * y13) > ((4294967296 * v16) + y21))) = true), (IntKind.min .u64 ≤ (v15 - 1) ∧ (v15 - 1) ≤ IntKind.max .u64), (IntKind.min .u64 ≤ (v16 + y11) ∧ (v16 + y11) ≤ IntKind.max .u64), ((decide ((v16 + y11) ≥ (4294967296 : Int))) = false)]) (by kernel_rfl) (by kernel_rfl) ⟨(decide_eq_false c41), h45, h46, h47, (decide_eq_true c48), h49, h50, ok1 (decide_eq_false c51)⟩
theorem math_bits_Div64_L29_4 (y_2 : Int) (r6 : Int) (y11 : Int) (y13 : Int) (y18 : Int) (y21 : Int) (y23 : Int) (v15 : Int) (v16 : Int) (c41 : ¬ (v15 ≥ (4294967296 : Int))) (h45 : InR .u64 (v15 * y13)) (h46 : InR .u64 (4294967296 * v16)) (h47 : InR .u64 ((4294967296 * v16) + y21)) (c48 : ¬ ((v15 * y13) > ((4294967296 * v16) + y21))) : Does Try.prog G0 0 (bodyAt Try.prog 44 [1, 1, 1, 1, 1, 1, 1, 1, 1, 1, 1, 1, 1, 1, 0, 0, 0]) (math_bits_Div64_L29_H y_2 r6 y11 y13 y18 y21 y23 (v15, v16)) (.exit 0) (S 135 [(2, .int .u64 (y_2 * 2 ^ (min (Int.toNat r6) (IntKind.bits .u64)))), (8, .int .u64 r6), (9, .int .u64 y11), (10, .int .u64 y13), (11, .int .u64 y18), (13, .int .u64 y21), (14, .int .u64 y23), (15, .int .u64 v15)] []) :=
  Does.of_viewM 0 400 [.op none .c, .op none .a, .op none .c, .op (some false) .c, .op none .c, .op none .w, .op none .c, .op none .w, .op none .c, .op none .w, .op none .a, .op none .c, .br false] [] (ps := [((decide (v15 ≥ (4294967296 : Int))) = false), (IntKind.min .u64 ≤ (v15 * y13) ∧ (v15 * y13) ≤ IntKind.max .u64), (IntKind.min .u64 ≤ (4294967296 * v16) ∧ (4294967296 * v16) ≤ IntKind.max .u64), (IntKind.min .u64 ≤ ((4294967296 * v16) + y21) ∧ ((4294967296 * v16) + y21) ≤ IntKind.max .u64), ((decide ((v15 * y13) > ((4294967296 * v16) + y21))) = false)]) (by kernel_rfl) (by kernel_rfl) ⟨(decide_eq_false c41), h45, h46, h47, ok1 (decide_eq_false c48)⟩
def math_bits_Div64_L29_X (y_2 : Int) (r6 : Int) (y11 : Int) (y13 : Int) (y18 : Int) (y21 : Int) (y23 : Int) : Int → AEx := fun o => (.exit 0)
def math_bits_Div64_L29_E (y_2 : Int) (r6 : Int) (y11 : Int) (y13 : Int) (y18 : Int) (y21 : Int) (y23 : Int) : Int → St := fun o => S 135 [(2, .int .u64 (y_2 * 2 ^ (min (Int.toNat r6) (IntKind.bits .u64)))), (8, .int .u64 r6), (9, .int .u64 y11), (10, .int .u64 y13), (11, .int .u64 y18), (13, .int .u64 y21), (14, .int .u64 y23), (15, .int .u64 o)] []
theorem math_bits_Div64_L29_does (y_2 : Int) (r6 : Int) (y11 : Int) (y13 : Int) (y18 : Int) (y21 : Int) (y23 : Int) {s : (Int × Int)} {r : Int} (h : lp (math_bits_Div64_L29_step y_2 r6 y11 y13 y18 y21 y23) s = some r) : Does Try.prog G0 0 (.loop (bodyAt Try.prog 44 [1, 1, 1, 1, 1, 1, 1, 1, 1, 1, 1, 1, 1, 1, 0, 0, 0])) (math_bits_Div64_L29_H y_2 r6 y11 y13 y18 y21 y23 s) (math_bits_Div64_L29_X y_2 r6 y11 y13 y18 y21 y23 r) (math_bits_Div64_L29_E y_2 r6 y11 y13 y18 y21 y23 r) := by
  refine Does.lp (H := math_bits_Div64_L29_H y_2 r6 y11 y13 y18 y21 y23) (X := math_bits_Div64_L29_X y_2 r6 y11 y13 y18 y21 y23) (E := math_bits_Div64_L29_E y_2 r6 y11 y13 y18 y21 y23) (fun s s2 h => ?_) (fun s r h => ?_) h
  · obtain ⟨v15, v16⟩ := s
    unfold math_bits_Div64_L29_step at h
    try dsimp only at h
    rcases ite_some h with ⟨c41, h⟩ | ⟨c41, h⟩
    · obtain ⟨h42, h⟩ := guard_some h
      obtain ⟨h43, h⟩ := guard_some h
      rcases ite_some h with ⟨c44, h⟩ | ⟨c44, h⟩
      · simp at h
      · simp only [Option.some.injEq, Sum.inl.injEq] at h
        subst h
        have hq := math_bits_Div64_L29_1 y_2 r6 y11 y13 y18 y21 y23 v15 v16 c41 h42 h43 c44
        first | exact hq | exact Eq.mp (by simp only [math_bits_Div64_L29_H, List.length_set] <;> rfl) hq
    · obtain ⟨h45, h⟩ := guard_some h
      obtain ⟨h46, h⟩ := guard_some h
      obtain ⟨h47, h⟩ := guard_some h
      rcases ite_some h with ⟨c48, h⟩ | ⟨c48, h⟩
      · obtain ⟨h49, h⟩ := guard_some h
        obtain ⟨h50, h⟩ := guard_some h
        rcases ite_some h with ⟨c51, h⟩ | ⟨c51, h⟩
        · simp at h
        · simp only [Option.some.injEq, Sum.inl.injEq] at h
          subst h
          have hq := math_bits_Div64_L29_3 y_2 r6 y11 y13 y18 y21 y23 v15 v16 c41 h45 h46 h47 c48 h49 h50 c51
          first | exact hq | exact Eq.mp (by simp only [math_bits_Div64_L29_H, List.length_set] <;> rfl) hq
      · simp at h
  · obtain ⟨v15, v16⟩ := s
    unfold math_bits_Div64_L29_step at h
    try dsimp only at h
    rcases ite_some h with ⟨c41, h⟩ | ⟨c41, h⟩
    · obtain ⟨h42, h⟩ := guard_some h
      obtain ⟨h43, h⟩ := guard_some h
      rcases ite_some h with ⟨c44, h⟩ | ⟨c44, h⟩
      · simp only [Option.some.injEq, Sum.inr.injEq] at h
        subst h
        exact ⟨math_bits_Div64_L29_0 y_2 r6 y11 y13 y18 y21 y23 v15 v16 c41 h42 h43 c44, by intro q; cases q⟩
      · simp at h
    · obtain ⟨h45, h⟩ := guard_some h
      obtain ⟨h46, h⟩ := guard_some h
      obtain ⟨h47, h⟩ := guard_some h
      rcases ite_some h with ⟨c48, h⟩ | ⟨c48, h⟩
      · obtain ⟨h49, h⟩ := guard_some h
        obtain ⟨h50, h⟩ := guard_some h
        rcases ite_some h with ⟨c51, h⟩ | ⟨c51, h⟩
        · simp only [Option.some.injEq, Sum.inr.injEq] at h
          subst h
          exact ⟨math_bits_Div64_L29_2 y_2 r6 y11 y13 y18 y21 y23 v15 v16 c41 h45 h46 h47 c48 h49 h50 c51, by intro q; cases q⟩
        · simp at h
      · simp only [Option.some.injEq, Sum.inr.injEq] at h
        subst h
        exact ⟨math_bits_Div64_L29_4 y_2 r6 y11 y13 y18 y21 y23 v15 v16 c41 h45 h46 h47 c48, by intro q; cases q⟩
noncomputable def math_bits_Div64_L61_step (y_2 : Int) (r6 : Int) (y11 : Int) (y13 : Int) (y23 : Int) (o29 : Int) (y56 : Int) : (Int × Int) → Option ((Int × Int) ⊕ Int)
  | (v16, v18) =>
    if v18 ≥ (4294967296 : Int) then
      if InR .u64 (v18 - 1) then
        if InR .u64 (v16 + y11) then
          if (v16 + y11) ≥ (4294967296 : Int) then
            some (Sum.inr (v18 - 1))
          else
            some (Sum.inl ((v16 + y11), (v18 - 1)))
        else none
      else none
    else
      if InR .u64 (v18 * y13) then
        if InR .u64 (4294967296 * v16) then
          if InR .u64 ((4294967296 * v16) + y23) then
            if (v18 * y13) > ((4294967296 * v16) + y23) then
              if InR .u64 (v18 - 1) then
                if InR .u64 (v16 + y11) then
                  if (v16 + y11) ≥ (4294967296 : Int) then
                    some (Sum.inr (v18 - 1))
                  else
                    some (Sum.inl ((v16 + y11), (v18 - 1)))
                else none
              else none
            else
              some (Sum.inr v18)
          else none
        else none
      else none
def math_bits_Div64_L61_H (y_2 : Int) (r6 : Int) (y11 : Int) (y13 : Int) (y23 : Int) (o29 : Int) (y56 : Int) : (Int × Int) → St := fun (s : (Int × Int)) => S 135 [(2, .int .u64 (y_2 * 2 ^ (min (Int.toNat r6) (IntKind.bits .u64)))), (8, .int .u64 r6), (9, .int .u64 y11), (10, .int .u64 y13), (14, .int .u64 y23), (15, .int .u64 o29), (16, .int .u64 s.1), (17, .int .u64 y56), (18, .int .u64 s.2)] []
theorem math_bits_Div64_L61_0 (y_2 : Int) (r6 : Int) (y11 : Int) (y13 : Int) (y23 : Int) (o29 : Int) (y56 : Int) (v16 : Int) (v18 : Int) (c73 : v18 ≥ (4294967296 : Int)) (h74 : InR .u64 (v18 - 1)) (h75 : InR .u64 (v16 + y11)) (c76 : (v16 + y11) ≥ (4294967296 : Int)) : Does Try.prog G0 0 (bodyAt Try.prog 44 [1, 1, 1, 1, 1, 1, 1, 1, 1, 1, 1, 1, 1, 1, 1, 1, 1, 1, 0, 0, 0]) (math_bits_Div64_L61_H y_2 r6 y11 y13 y23 o29 y56 (v16, v18)) (.exit 2) (S 135 [(2, .int .u64 (y_2 * 2 ^ (min (Int.toNat r6) (IntKind.bits .u64)))), (8, .int .u64 r6), (14, .int .u64 y23), (15, .int .u64 o29), (17, .int .u64 y56), (18, .int .u64 (v18 - 1))] []) :=
  Does.of_viewM 0 400 ((.op none .c) :: (.op none .a) :: (.op none .c) :: (.op (some true) .c) :: (cs 8 ((.br true) :: (.op none .c) :: (.op none .w) :: (cs 3 ((.op none .w) :: (cs 2 [.op none .a, .br true])))))) [] (ps := [((decide (v18 ≥ (4294967296 : Int))) = true), (true = true), (IntKind.min .u64 ≤ (v18 - 1) ∧ (v18 - 1) ≤ IntKind.max .u64), (IntKind.min .u64 ≤ (v16 + y11) ∧ (v16 + y11) ≤ IntKind.max .u64), ((decide ((v16 + y11) ≥ (4294967296 : Int))) = true)]) (by kernel_rfl) (by kernel_rfl) ⟨(decide_eq_true c73), rfl, h74, h75, ok1 (decide_eq_true c76)⟩
theorem math_bits_Div64_L61_1 (y_2 : Int) (r6 : Int) (y11 : Int) (y13 : Int) (y23 : Int) (o29 : Int) (y56 : Int) (v16 : Int) (v18 : Int) (c73 : v18 ≥ (4294967296 : Int)) (h74 : InR .u64 (v18 - 1)) (h75 : InR .u64 (v16 + y11)) (c76 : ¬ ((v16 + y11) ≥ (4294967296 : Int))) : Does Try.prog G0 0 (bodyAt Try.prog 44 [1, 1, 1, 1, 1, 1, 1, 1, 1, 1, 1, 1, 1, 1, 1, 1, 1, 1, 0, 0, 0]) (math_bits_Div64_L61_H y_2 r6 y11 y13 y23 o29 y56 (v16, v18)) .normal (S 135 [(2, .int .u64 (y_2 * 2 ^ (min (Int.toNat r6) (IntKind.bits .u64)))), (8, .int .u64 r6), (9, .int .u64 y11), (10, .int .u64 y13), (14, .int .u64 y23), (15, .int .u64 o29), (16, .int .u64 (v16 + y11)), (17, .int .u64 y56), (18, .int .u64 (v18 - 1))] []) :=
  Does.of_viewM 0 400 ((.op none .c) :: (.op none .a) :: (.op none .c) :: (.op (some true) .c) :: (cs 8 ((.br true) :: (.op none .c) :: (.op none .w) :: (cs 3 ((.op none .w) :: (cs 2 [.op none .a, .br false])))))) [] (ps := [((decide (v18 ≥ (4294967296 : Int))) = true), (true = true), (IntKind.min .u64 ≤ (v18 - 1) ∧ (v18 - 1) ≤ IntKind.max .u64), (IntKind.min .u64 ≤ (v16 + y11) ∧ (v16 + y11) ≤ IntKind.max .u64), ((decide ((v16 + y11) ≥ (4294967296 : Int))) = false)]) (by kernel_rfl) (by kernel_rfl) ⟨(decide_eq_true c73), rfl, h74, h75, ok1 (decide_eq_false c76)⟩
theorem math_bits_Div64_L61_2 (y_2 : Int) (r6 : Int) (y11 : Int) (y13 : Int) (y23 : Int) (o29 : Int) (y56 : Int) (v16 : Int) (v18 : Int) (c73 : ¬ (v18 ≥ (4294967296 : Int))) (h77 : InR .u64 (v18 * y13)) (h78 : InR .u64 (4294967296 * v16)) (h79 : InR .u64 ((4294967296 * v16) + y23)) (c80 : (v18 * y13) > ((4294967296 * v16) + y23)) (h81 : InR .u64 (v18 - 1)) (h82 : InR .u64 (v16 + y11)) (c83 : (v16 + y11) ≥ (4294967296 : Int)) : Does Try.prog G0 0 (bodyAt Try.prog 44 [1, 1, 1, 1, 1, 1, 1, 1, 1, 1, 1, 1, 1, 1, 1, 1, 1, 1, 0, 0, 0]) (math_bits_Div64_L61_H y_2 r6 y11 y13 y23 o29 y56 (v16, v18)) (.exit 2) (S 135 [(2, .int .u64 (y_2 * 2 ^ (min (Int.toNat r6) (IntKind.bits .u64)))), (8, .int .u64 r6), (14, .int .u64 y23), (15, .int .u64 o29), (17, .int .u64 y56), (18, .int .u64 (v18 - 1))] []) :=
  Does.of_viewM 0 400 ((.op none .c) :: (.op none .a) :: (.op none .c) :: (.op (some false) .c) :: (.op none .c) :: (.op none .w) :: (.op none .c) :: (.op none .w) :: (.op none .c) :: (.op none .w) :: (.op none .a) :: (.op none .c) :: (.br true) :: (.op none .c) :: (.op none .w) :: (cs 3 ((.op none .w) :: (cs 2 [.op none .a, .br true])))) [] (ps := [((decide (v18 ≥ (4294967296 : Int))) = false), (IntKind.min .u64 ≤ (v18 * y13) ∧ (v18 * y13) ≤ IntKind.max .u64), (IntKind.min .u64 ≤ (4294967296 * v16) ∧ (4294967296 * v16) ≤ IntKind.max .u64), (IntKind.min .u64 ≤ ((4294967296 * v16) + y23) ∧ ((4294967296 * v16) + y23) ≤ IntKind.max .u64), ((decide ((v18 * y13) > ((4294967296 * v16) + y23))) = true), (IntKind.min .u64 ≤ (v18 - 1) ∧ (v18 - 1) ≤ IntKind.max .u64), (IntKind.min .u64 ≤ (v16 + y11) ∧ (v16 + y11) ≤ IntKind.max .u64), ((decide ((v16 + y11) ≥ (4294967296 : Int))) = true)]) (by kernel_rfl) (by kernel_rfl) ⟨(decide_eq_false c73), h77, h78, h79, (decide_eq_true c80), h81, h82, ok1 (decide_eq_true c83)⟩
theorem math_bits_Div64_L61_3 (y_2 : Int) (r6 : Int) (y11 : Int) (y13 : Int) (y23 : Int) (o29 : Int) (y56 : Int) (v16 : Int) (v18 : Int) (c73 : ¬ (v18 ≥ (4294967296 : Int))) (h77 : InR .u64 (v18 * y13)) (h78 : InR .u64 (4294967296 * v16)) (h79 : InR .u64 ((4294967296 * v16) + y23)) (c80 : (v18 * y13) > ((4294967296 * v16) + y23)) (h81 : InR .u64 (v18 - 1)) (h82 : InR .u64 (v16 + y11)) (c83 : ¬ ((v16 + y11) ≥ (4294967296 : Int))) : Does Try.prog G0 0 (bodyAt Try.prog 44 [1, 1, 1, 1, 1, 1, 1, 1, 1, 1, 1, 1, 1, 1, 1, 1, 1, 1, 0, 0, 0]) (math_bits_Div64_L61_H y_2 r6 y11 y13 y23 o29 y56 (v16, v18)) .normal (S 135 [(2, .int .u64 (y_2 * 2 ^ (min (Int.toNat r6) (IntKind.bits .u64)))), (8, .int .u64 r6), (9, .int .u64 y11), (10, .int .u64 y13), (14, .int .u64 y23), (15, .int .u64 o29), (16, .int .u64 (v16 + y11)), (17, .int .u64 y56), (18, .int .u64 (v18 - 1))] []) :=
  Does.of_viewM 0 400 ((.op none .c) :: (.op none .a) :: (.op none .c) :: (.op (some false) .c) :: (.op none .c) :: (.op none .w) :: (.op none .c) :: (.op none .w) :: (.op none .c) :: (.op none .w) :: (.op none .a) :: (.op none .c) :: (.br true) :: (.op none .c) :: (.op none .w) :: (cs 3 ((.op none .w) :: (cs 2 [.op none .a, .br false])))) [] (ps := [((decide (v18 ≥ (4294967296 : Int))) = false), (IntKind.min .u64 ≤ (v18 * y13) ∧ (v18 * y13) ≤ IntKind.max .u64), (IntKind.min .u64 ≤ (4294967296 * v16) ∧ (4294967296 * v16) ≤ IntKind.max .u64), (IntKind.min .u64 ≤ ((4294967296 * v16) + y23) ∧ ((4294967296 * v16) + y23) ≤ IntKind.max .u64), ((decide ((v18 * y13) > ((4294967296 * v16) + y23))) = true), (IntKind.min .u64 ≤ (v18 - 1) ∧ (v18 - 1) ≤ IntKind.max .u64), (IntKind.min .u64 ≤ (v16 + y11) ∧ (v16 + y11) ≤ IntKind.max .u64), ((decide ((v16 + y11) ≥ (4294967296 : Int))) = false)]) (by kernel_rfl) (by kernel_rfl) ⟨(decide_eq_false c73), h77, h78, h79, (decide_eq_true c80), h81, h82, ok1 (decide_eq_false c83)⟩
theorem math_bits_Div64_L61_4 (y_2 : Int) (r6 : Int) (y11 : Int) (y13 : Int) (y23 : Int) (o29 : Int) (y56 : Int) (v16 : Int) (v18 : Int) (c73 : ¬ (v18 ≥ (4294967296 : Int))) (h77 : InR .u64 (v18 * y13)) (h78 : InR .u64 (4294967296 * v16)) (h79 : InR .u64 ((4294967296 * v16) + y23)) (c80 : ¬ ((v18 * y13) > ((4294967296 * v16) + y23))) : Does Try.prog G0 0 (bodyAt Try.prog 44 [1, 1, 1, 1, 1, 1, 1, 1, 1, 1, 1, 1, 1, 1, 1, 1, 1, 1, 0, 0, 0]) (math_bits_Div64_L61_H y_2 r6 y11 y13 y23 o29 y56 (v16, v18)) (.exit 2) (S 135 [(2, .int .u64 (y_2 * 2 ^ (min (Int.toNat r6) (IntKind.bits .u64)))), (8, .int .u64 r6), (14, .int .u64 y23), (15, .int .u64 o29), (17, .int .u64 y56), (18, .int .u64 v18)] []) :=
  Does.of_viewM 0 400 [.op none .c, .op none .a, .op none .c, .op (some false) .c, .op none .c, .op none .w, .op none .c, .op none .w, .op none .c, .op none .w, .op none .a, .op none .c, .br false] [] (ps := [((decide (v18 ≥ (4294967296 : Int))) = false), (IntKind.min .u64 ≤ (v18 * y13) ∧ (v18 * y13) ≤ IntKind.max .u64), (IntKind.min .u64 ≤ (4294967296 * v16) ∧ (4294967296 * v16) ≤ IntKind.max .u64), (IntKind.min .u64 ≤ ((4294967296 * v16) + y23) ∧ ((4294967296 * v16) + y23) ≤ IntKind.max .u64), ((decide ((v18 * y13) > ((4294967296 * v16) + y23))) = false)]) (by kernel_rfl) (by kernel_rfl) ⟨(decide_eq_false c73), h77, h78, h79, ok1 (decide_eq_false c80)⟩
def math_bits_Div64_L61_X (y_2 : Int) (r6 : Int) (y11 : Int) (y13 : Int) (y23 : Int) (o29 : Int) (y56 : Int) : Int → AEx := fun o => (.exit 2)
def math_bits_Div64_L61_E (y_2 : Int) (r6 : Int) (y11 : Int) (y13 : Int) (y23 : Int) (o29 : Int) (y56 : Int) : Int → St := fun o => S 135 [(2, .int .u64 (y_2 * 2 ^ (min (Int.toNat r6) (IntKind.bits .u64)))), (8, .int .u64 r6), (14, .int .u64 y23), (15, .int .u64 o29), (17, .int .u64 y56), (18, .int .u64 o)] []
theorem math_bits_Div64_L61_does (y_2 : Int) (r6 : Int) (y11 : Int) (y13 : Int) (y23 : Int) (o29 : Int) (y56 : Int) {s : (Int × Int)} {r : Int} (h : lp (math_bits_Div64_L61_step y_2 r6 y11 y13 y23 o29 y56) s = some r) : Does Try.prog G0 0 (.loop (bodyAt Try.prog 44 [1, 1, 1, 1, 1, 1, 1, 1, 1, 1, 1, 1, 1, 1, 1, 1, 1, 1, 0, 0, 0])) (math_bits_Div64_L61_H y_2 r6 y11 y13 y23 o29 y56 s) (math_bits_Div64_L61_X y_2 r6 y11 y13 y23 o29 y56 r) (math_bits_Div64_L61_E y_2 r6 y11 y13 y23 o29 y56 r) := by
  refine Does.lp (H := math_bits_Div64_L61_H y_2 r6 y11 y13 y23 o29 y56) (X := math_bits_Div64_L61_X y_2 r6 y11 y13 y23 o29 y56) (E := math_bits_Div64_L61_E y_2 r6 y11 y13 y23 o29 y56) (fun s s2 h => ?_) (fun s r h => ?_) h
  · obtain ⟨v16, v18⟩ := s
    unfold math_bits_Div64_L61_step at h
    try dsimp only at h
    rcases ite_some h with ⟨c73, h⟩ | ⟨c73, h⟩
    · obtain ⟨h74, h⟩ := guard_some h
      obtain ⟨h75, h⟩ := guard_some h
      rcases ite_some h with ⟨c76, h⟩ | ⟨c76, h⟩
      · simp at h
      · simp only [Option.some.injEq, Sum.inl.injEq] at h
        subst h
        have hq := math_bits_Div64_L61_1 y_2 r6 y11 y13 y23 o29 y56 v16 v18 c73 h74 h75 c76
        first | exact hq | exact Eq.mp (by simp only [math_bits_Div64_L61_H, List.length_set] <;> rfl) hq
    · obtain ⟨h77, h⟩ := guard_some h
      obtain ⟨h78, h⟩ := guard_some h
      obtain ⟨h79, h⟩ := guard_some h
      rcases ite_some h with ⟨c80, h⟩ | ⟨c80, h⟩
      · obtain ⟨h81, h⟩ := guard_some h
        obtain ⟨h82, h⟩ := guard_some h
        rcases ite_some h with ⟨c83, h⟩ | ⟨c83, h⟩
        · simp at h
        · simp only [Option.some.injEq, Sum.inl.injEq] at h
          subst h
          have hq := math_bits_Div64_L61_3 y_2 r6 y11 y13 y23 o29 y56 v16 v18 c73 h77 h78 h79 c80 h81 h82 c83
          first | exact hq | exact Eq.mp (by simp only [math_bits_Div64_L61_H, List.length_set] <;> rfl) hq
      · simp at h
  · obtain ⟨v16, v18⟩ := s
    unfold math_bits_Div64_L61_step at h
    try dsimp only at h
    rcases ite_some h with ⟨c73, h⟩ | ⟨c73, h⟩
    · obtain ⟨h74, h⟩ := guard_some h
      obtain ⟨h75, h⟩ := guard_some h
      rcases ite_some h with ⟨c76, h⟩ | ⟨c76, h⟩
      · simp only [Option.some.injEq, Sum.inr.injEq] at h
        subst h
        exact ⟨math_bits_Div64_L61_0 y_2 r6 y11 y13 y23 o29 y56 v16 v18 c73 h74 h75 c76, by intro q; cases q⟩
      · simp at h
    · obtain ⟨h77, h⟩ := guard_some h
      obtain ⟨h78, h⟩ := guard_some h
      obtain ⟨h79, h⟩ := guard_some h
      rcases ite_some h with ⟨c80, h⟩ | ⟨c80, h⟩
      · obtain ⟨h81, h⟩ := guard_some h
        obtain ⟨h82, h⟩ := guard_some h
        rcases ite_some h with ⟨c83, h⟩ | ⟨c83, h⟩
        · simp only [Option.some.injEq, Sum.inr.injEq] at h
          subst h
          exact ⟨math_bits_Div64_L61_2 y_2 r6 y11 y13 y23 o29 y56 v16 v18 c73 h77 h78 h79 c80 h81 h82 c83, by intro q; cases q⟩
        · simp at h
      · simp only [Option.some.injEq, Sum.inr.injEq] at h
        subst h
        exact ⟨math_bits_Div64_L61_4 y_2 r6 y11 y13 y23 o29 y56 v16 v18 c73 h77 h78 h79 c80, by intro q; cases q⟩
noncomputable def math_bits_Div64 (hi_0 : Int) (lo_1 : Int) (y_2 : Int) : Option (Int × Int) :=
  if y_2 = (0 : Int) then
    none
  else
    if y_2 ≤ hi_0 then
      none
    else
      if hi_0 = (0 : Int) then
        if y_2 ≠ (0 : Int) then
          if InR .u64 (Int.tdiv lo_1 y_2) then
            some ((Int.tdiv lo_1 y_2), (Int.tmod lo_1 y_2))
          else none
        else none
      else
        (noF y_2).bind fun r6 =>
        if InR .u64 (r6) then
          if (0 : Int) ≤ r6 then
            if InR .u64 (y_2 * 2 ^ (min (Int.toNat r6) (IntKind.bits .u64))) then
              (some (Int.fdiv (y_2 * 2 ^ (min (Int.toNat r6) (IntKind.bits .u64))) (2 ^ (min (Int.toNat 32) (IntKind.bits .u64))))).bind fun y11 =>
              (some (IntKind.wrap .u64 ((BitVec.ofInt (IntKind.bits .u64) (y_2 * 2 ^ (min (Int.toNat r6) (IntKind.bits .u64))) &&& BitVec.ofInt (IntKind.bits .u64) 4294967295).toNat : Int))).bind fun y13 =>
              if InR .u64 (hi_0 * 2 ^ (min (Int.toNat r6) (IntKind.bits .u64))) then
                if InR .u64 (64 - r6) then
                  if (0 : Int) ≤ (64 - r6) then
                    (some (IntKind.wrap .u64 ((BitVec.ofInt (IntKind.bits .u64) (hi_0 * 2 ^ (min (Int.toNat r6) (IntKind.bits .u64))) ||| BitVec.ofInt (IntKind.bits .u64) (Int.fdiv lo_1 (2 ^ (min (Int.toNat (64 - r6)) (IntKind.bits .u64))))).toNat : Int))).bind fun y18 =>
                    if InR .u64 (lo_1 * 2 ^ (min (Int.toNat r6) (IntKind.bits .u64))) then
                      (some (Int.fdiv (lo_1 * 2 ^ (min (Int.toNat r6) (IntKind.bits .u64))) (2 ^ (min (Int.toNat 32) (IntKind.bits .u64))))).bind fun y21 =>
                      (some (IntKind.wrap .u64 ((BitVec.ofInt (IntKind.bits .u64) (lo_1 * 2 ^ (min (Int.toNat r6) (IntKind.bits .u64))) &&& BitVec.ofInt (IntKind.bits .u64) 4294967295).toNat : Int))).bind fun y23 =>
                      if y11 ≠ (0 : Int) then
                        if InR .u64 (Int.tdiv y18 y11) then
                          if InR .u64 ((Int.tdiv y18 y11) * y11) then
                            if InR .u64 (y18 - ((Int.tdiv y18 y11) * y11)) then
                              (lp (math_bits_Div64_L29_step y_2 r6 y11 y13 y18 y21 y23) ((Int.tdiv y18 y11), (y18 - ((Int.tdiv y18 y11) * y11)))).bind fun o29 =>
                              if InR .u64 (y18 * 4294967296) then
                                if InR .u64 ((y18 * 4294967296) + y21) then
                                  if InR .u64 (o29 * (y_2 * 2 ^ (min (Int.toNat r6) (IntKind.bits .u64)))) then
                                    if InR .u64 (((y18 * 4294967296) + y21) - (o29 * (y_2 * 2 ^ (min (Int.toNat r6) (IntKind.bits .u64))))) then
                                      (some (((y18 * 4294967296) + y21) - (o29 * (y_2 * 2 ^ (min (Int.toNat r6) (IntKind.bits .u64)))))).bind fun y56 =>
                                      if InR .u64 (Int.tdiv y56 y11) then
                                        if InR .u64 ((Int.tdiv y56 y11) * y11) then
                                          if InR .u64 (y56 - ((Int.tdiv y56 y11) * y11)) then
                                            (lp (math_bits_Div64_L61_step y_2 r6 y11 y13 y23 o29 y56) ((y56 - ((Int.tdiv y56 y11) * y11)), (Int.tdiv y56 y11))).bind fun o61 =>
                                            if InR .u64 (o29 * 4294967296) then
                                              if InR .u64 ((o29 * 4294967296) + o61) then
                                                if InR .u64 (y56 * 4294967296) then
                                                  if InR .u64 ((y56 * 4294967296) + y23) then
                                                    if InR .u64 (o61 * (y_2 * 2 ^ (min (Int.toNat r6) (IntKind.bits .u64)))) then
                                                      if InR .u64 (((y56 * 4294967296) + y23) - (o61 * (y_2 * 2 ^ (min (Int.toNat r6) (IntKind.bits .u64))))) then
                                                        (some (((y56 * 4294967296) + y23) - (o61 * (y_2 * 2 ^ (min (Int.toNat r6) (IntKind.bits .u64)))))).bind fun y90 =>
                                                        some (((o29 * 4294967296) + o61), (Int.fdiv y90 (2 ^ (min (Int.toNat r6) (IntKind.bits .u64)))))
                                                      else none
                                                    else none
                                                  else none
                                                else none
                                              else none
                                            else none
                                          else none
                                        else none
                                      else none
                                    else none
                                  else none
                                else none
                              else none
                            else none
                          else none
                        else none
                      else none
                    else none
                  else none
                else none
              else none
            else none
          else none
        else none
def math_bits_Div64_h1  : List CH := (cs 3 ((.op none .a) :: (.br false) :: (cs 2 [.op none .a, .br false, .op none .c, .op none .a])))
theorem math_bits_Div64_2 (hi_0 : Int) (lo_1 : Int) (y_2 : Int) (c1 : ¬ (y_2 = (0 : Int))) (c2 : ¬ (y_2 ≤ hi_0)) (c3 : hi_0 = (0 : Int)) (h4 : y_2 ≠ (0 : Int)) (h5 : InR .u64 (Int.tdiv lo_1 y_2)) : Ret Try.prog G0 44 [.int .u64 hi_0, .int .u64 lo_1, .int .u64 y_2] (.tup [.int .u64 (Int.tdiv lo_1 y_2), .int .u64 (Int.tmod lo_1 y_2)]) [] :=
  Ret.of_view 400 ((math_bits_Div64_h1) ++ ((.br true) :: (cs 2 ((.op none .w) :: (cs 2 ((.op none .a) :: (cs 2 []))))))) [] (ps := ([((y_2 == (0 : Int)) = false), ((decide (y_2 ≤ hi_0)) = false)] ++ [((hi_0 == (0 : Int)) = true), (y_2 ≠ (0 : Int)), (IntKind.min .u64 ≤ (Int.tdiv lo_1 y_2) ∧ (Int.tdiv lo_1 y_2) ≤ IntKind.max .u64), (y_2 ≠ (0 : Int))])) (by kernel_rfl) (by kernel_rfl) (allOk_append.2 ⟨⟨(beq_f c1), ok1 (decide_eq_false c2)⟩, ⟨(beq_t c3), h4, h5, ok1 h4⟩⟩)
theorem math_bits_Div64_3 (hi_0 : Int) (lo_1 : Int) (y_2 : Int) (c1 : ¬ (y_2 = (0 : Int))) (c2 : ¬ (y_2 ≤ hi_0)) (c3 : ¬ (hi_0 = (0 : Int))) (r6 : Int) (h7 : noF y_2 = some r6) (h8 : InR .u64 (r6)) (h9 : (0 : Int) ≤ r6) (h10 : InR .u64 (y_2 * 2 ^ (min (Int.toNat r6) (IntKind.bits .u64)))) (y11 : Int) (h12 : some (Int.fdiv (y_2 * 2 ^ (min (Int.toNat r6) (IntKind.bits .u64))) (2 ^ (min (Int.toNat 32) (IntKind.bits .u64)))) = some y11) (y13 : Int) (h14 : some (IntKind.wrap .u64 ((BitVec.ofInt (IntKind.bits .u64) (y_2 * 2 ^ (min (Int.toNat r6) (IntKind.bits .u64))) &&& BitVec.ofInt (IntKind.bits .u64) 4294967295).toNat : Int)) = some y13) (h15 : InR .u64 (hi_0 * 2 ^ (min (Int.toNat r6) (IntKind.bits .u64)))) (h16 : InR .u64 (64 - r6)) (h17 : (0 : Int) ≤ (64 - r6)) (y18 : Int) (h19 : some (IntKind.wrap .u64 ((BitVec.ofInt (IntKind.bits .u64) (hi_0 * 2 ^ (min (Int.toNat r6) (IntKind.bits .u64))) ||| BitVec.ofInt (IntKind.bits .u64) (Int.fdiv lo_1 (2 ^ (min (Int.toNat (64 - r6)) (IntKind.bits .u64))))).toNat : Int)) = some y18) (h20 : InR .u64 (lo_1 * 2 ^ (min (Int.toNat r6) (IntKind.bits .u64)))) (y21 : Int) (h22 : some (Int.fdiv (lo_1 * 2 ^ (min (Int.toNat r6) (IntKind.bits .u64))) (2 ^ (min (Int.toNat 32) (IntKind.bits .u64)))) = some y21) (y23 : Int) (h24 : some (IntKind.wrap .u64 ((BitVec.ofInt (IntKind.bits .u64) (lo_1 * 2 ^ (min (Int.toNat r6) (IntKind.bits .u64))) &&& BitVec.ofInt (IntKind.bits .u64) 4294967295).toNat : Int)) = some y23) (h25 : y11 ≠ (0 : Int)) (h26 : InR .u64 (Int.tdiv y18 y11)) (h27 : InR .u64 ((Int.tdiv y18 y11) * y11)) (h28 : InR .u64 (y18 - ((Int.tdiv y18 y11) * y11))) (o29 : Int) (hl29 : lp (math_bits_Div64_L29_step y_2 r6 y11 y13 y18 y21 y23) ((Int.tdiv y18 y11), (y18 - ((Int.tdiv y18 y11) * y11))) = some o29) (h52 : InR .u64 (y18 * 4294967296)) (h53 : InR .u64 ((y18 * 4294967296) + y21)) (h54 : InR .u64 (o29 * (y_2 * 2 ^ (min (Int.toNat r6) (IntKind.bits .u64))))) (h55 : InR .u64 (((y18 * 4294967296) + y21) - (o29 * (y_2 * 2 ^ (min (Int.toNat r6) (IntKind.bits .u64)))))) (y56 : Int) (h57 : some (((y18 * 4294967296) + y21) - (o29 * (y_2 * 2 ^ (min (Int.toNat r6) (IntKind.bits .u64))))) = some y56) (h58 : InR .u64 (Int.tdiv y56 y11)) (h59 : InR .u64 ((Int.tdiv y56 y11) * y11)) (h60 : InR .u64 (y56 - ((Int.tdiv y56 y11) * y11))) (o61 : Int) (hl61 : lp (math_bits_Div64_L61_step y_2 r6 y11 y13 y23 o29 y56) ((y56 - ((Int.tdiv y56 y11) * y11)), (Int.tdiv y56 y11)) = some o61) (h84 : InR .u64 (o29 * 4294967296)) (h85 : InR .u64 ((o29 * 4294967296) + o61)) (h86 : InR .u64 (y56 * 4294967296)) (h87 : InR .u64 ((y56 * 4294967296) + y23)) (h88 : InR .u64 (o61 * (y_2 * 2 ^ (min (Int.toNat r6) (IntKind.bits .u64))))) (h89 : InR .u64 (((y56 * 4294967296) + y23) - (o61 * (y_2 * 2 ^ (min (Int.toNat r6) (IntKind.bits .u64)))))) (y90 : Int) (h91 : some (((y56 * 4294967296) + y23) - (o61 * (y_2 * 2 ^ (min (Int.toNat r6) (IntKind.bits .u64))))) = some y90) : Ret Try.prog G0 44 [.int .u64 hi_0, .int .u64 lo_1, .int .u64 y_2] (.tup [.int .u64 ((o29 * 4294967296) + o61), .int .u64 (Int.fdiv y90 (2 ^ (min (Int.toNat r6) (IntKind.bits .u64))))]) [] :=
  Ret.of_view 400 ((math_bits_Div64_h1) ++ ((.br false) :: (.op none .c) :: (.ret none [.int .u64 y_2] (.int .i64 r6) []) :: (.op none .w) :: (cs 3 ((.op none .w) :: (cs 2 ((.op none .a) :: (.tr (.eqt (.t 41) (.int .u64 y11))) :: (cs 2 ((.op none .a) :: (.tr (.eqt (.t 43) (.int .u64 y13))) :: (cs 3 ((.op none .w) :: (cs 2 ((.op none .w) :: (.op none .a) :: (.op none .a) :: (.tr (.eqt (.t 51) (.int .u64 y18))) :: (cs 3 ((.op none .w) :: (cs 2 ((.op none .a) :: (.tr (.eqt (.t 56) (.int .u64 y21))) :: (cs 2 ((.op none .a) :: (.tr (.eqt (.t 58) (.int .u64 y23))) :: (cs 3 ((.op none .w) :: (cs 4 ((.op none .w) :: (.op none .w) :: (.op none .c) :: (.fcut 0 (.exit 0) [(2, .int .u64 (y_2 * 2 ^ (min (Int.toNat r6) (IntKind.bits .u64)))), (8, .int .u64 r6), (9, .int .u64 y11), (10, .int .u64 y13), (11, .int .u64 y18), (13, .int .u64 y21), (14, .int .u64 y23), (15, .int .u64 o29)] [] [] [(2, .int .u64 (y_2 * 2 ^ (min (Int.toNat r6) (IntKind.bits .u64)))), (8, .int .u64 r6), (9, .int .u64 y11), (10, .int .u64 y13), (11, .int .u64 y18), (13, .int .u64 y21), (14, .int .u64 y23), (15, .int .u64 (Int.tdiv y18 y11)), (16, .int .u64 (y18 - ((Int.tdiv y18 y11) * y11)))] []) :: (.op none .c) :: (.op none .w) :: (.op none .c) :: (.op none .w) :: (cs 2 ((.op none .w) :: (.op none .w) :: (.tr (.eqt (.t 93) (.int .u64 y56))) :: (cs 3 ((.op none .w) :: (cs 4 ((.op none .w) :: (.op none .w) :: (.op none .c) :: (.fcut 0 (.exit 2) [(2, .int .u64 (y_2 * 2 ^ (min (Int.toNat r6) (IntKind.bits .u64)))), (8, .int .u64 r6), (14, .int .u64 y23), (15, .int .u64 o29), (17, .int .u64 y56), (18, .int .u64 o61)] [] [] [(2, .int .u64 (y_2 * 2 ^ (min (Int.toNat r6) (IntKind.bits .u64)))), (8, .int .u64 r6), (9, .int .u64 y11), (10, .int .u64 y13), (14, .int .u64 y23), (15, .int .u64 o29), (16, .int .u64 (y56 - ((Int.tdiv y56 y11) * y11))), (17, .int .u64 y56), (18, .int .u64 (Int.tdiv y56 y11))] []) :: (.op none .c) :: (.op none .w) :: (.op none .c) :: (.op none .w) :: (.op none .c) :: (.op none .w) :: (.op none .c) :: (.op none .w) :: (cs 2 ((.op none .w) :: (.op none .w) :: (.tr (.eqt (.t 132) (.int .u64 y90))) :: (.op none .c) :: (.op none .a) :: (cs 2 []))))))))))))))))))))))))))))))) [] (ps := ([((y_2 == (0 : Int)) = false), ((decide (y_2 ≤ hi_0)) = false)] ++ [((hi_0 == (0 : Int)) = false), ((.int .u64 y_2 : AV) = .int .u64 y_2), (Ret Try.prog G0 55 [.int .u64 y_2] (.int .i64 r6) []), (IntKind.min .u64 ≤ r6 ∧ r6 ≤ IntKind.max .u64), ((0 : Int) ≤ r6), (IntKind.min .u64 ≤ (y_2 * 2 ^ (min (Int.toNat r6) (IntKind.bits .u64))) ∧ (y_2 * 2 ^ (min (Int.toNat r6) (IntKind.bits .u64))) ≤ IntKind.max .u64), ((0 : Int) ≤ 32), ((.int .u64 (Int.fdiv (y_2 * 2 ^ (min (Int.toNat r6) (IntKind.bits .u64))) (2 ^ (min (Int.toNat 32) (IntKind.bits .u64)))) : AV) = .int .u64 y11), ((.int .u64 (IntKind.wrap .u64 ((BitVec.ofInt (IntKind.bits .u64) (y_2 * 2 ^ (min (Int.toNat r6) (IntKind.bits .u64))) &&& BitVec.ofInt (IntKind.bits .u64) 4294967295).toNat : Int)) : AV) = .int .u64 y13), ((0 : Int) ≤ r6), (IntKind.min .u64 ≤ (hi_0 * 2 ^ (min (Int.toNat r6) (IntKind.bits .u64))) ∧ (hi_0 * 2 ^ (min (Int.toNat r6) (IntKind.bits .u64))) ≤ IntKind.max .u64), (IntKind.min .u64 ≤ (64 - r6) ∧ (64 - r6) ≤ IntKind.max .u64), ((0 : Int) ≤ (64 - r6)), ((.int .u64 (IntKind.wrap .u64 ((BitVec.ofInt (IntKind.bits .u64) (hi_0 * 2 ^ (min (Int.toNat r6) (IntKind.bits .u64))) ||| BitVec.ofInt (IntKind.bits .u64) (Int.fdiv lo_1 (2 ^ (min (Int.toNat (64 - r6)) (IntKind.bits .u64))))).toNat : Int)) : AV) = .int .u64 y18), ((0 : Int) ≤ r6), (IntKind.min .u64 ≤ (lo_1 * 2 ^ (min (Int.toNat r6) (IntKind.bits .u64))) ∧ (lo_1 * 2 ^ (min (Int.toNat r6) (IntKind.bits .u64))) ≤ IntKind.max .u64), ((0 : Int) ≤ 32), ((.int .u64 (Int.fdiv (lo_1 * 2 ^ (min (Int.toNat r6) (IntKind.bits .u64))) (2 ^ (min (Int.toNat 32) (IntKind.bits .u64)))) : AV) = .int .u64 y21), ((.int .u64 (IntKind.wrap .u64 ((BitVec.ofInt (IntKind.bits .u64) (lo_1 * 2 ^ (min (Int.toNat r6) (IntKind.bits .u64))) &&& BitVec.ofInt (IntKind.bits .u64) 4294967295).toNat : Int)) : AV) = .int .u64 y23), (y11 ≠ (0 : Int)), (IntKind.min .u64 ≤ (Int.tdiv y18 y11) ∧ (Int.tdiv y18 y11) ≤ IntKind.max .u64), (IntKind.min .u64 ≤ ((Int.tdiv y18 y11) * y11) ∧ ((Int.tdiv y18 y11) * y11) ≤ IntKind.max .u64), (IntKind.min .u64 ≤ (y18 - ((Int.tdiv y18 y11) * y11)) ∧ (y18 - ((Int.tdiv y18 y11) * y11)) ≤ IntKind.max .u64), ((.int .u64 (y_2 * 2 ^ (min (Int.toNat r6) (IntKind.bits .u64))) : AV) = .int .u64 (y_2 * 2 ^ (min (Int.toNat r6) (IntKind.bits .u64)))), ((.int .u64 r6 : AV) = .int .u64 r6), ((.int .u64 y11 : AV) = .int .u64 y11), ((.int .u64 y13 : AV) = .int .u64 y13), ((.int .u64 y18 : AV) = .int .u64 y18), ((.int .u64 y21 : AV) = .int .u64 y21), ((.int .u64 y23 : AV) = .int .u64 y23), ((.int .u64 (Int.tdiv y18 y11) : AV) = .int .u64 (Int.tdiv y18 y11)), ((.int .u64 (y18 - ((Int.tdiv y18 y11) * y11)) : AV) = .int .u64 (y18 - ((Int.tdiv y18 y11) * y11))), (Does Try.prog G0 0 (.loop (bodyAt Try.prog 44 [1, 1, 1, 1, 1, 1, 1, 1, 1, 1, 1, 1, 1, 1, 0, 0, 0])) (S 135 [(2, .int .u64 (y_2 * 2 ^ (min (Int.toNat r6) (IntKind.bits .u64)))), (8, .int .u64 r6), (9, .int .u64 y11), (10, .int .u64 y13), (11, .int .u64 y18), (13, .int .u64 y21), (14, .int .u64 y23), (15, .int .u64 (Int.tdiv y18 y11)), (16, .int .u64 (y18 - ((Int.tdiv y18 y11) * y11)))] []) (.exit 0) (S 135 [(2, .int .u64 (y_2 * 2 ^ (min (Int.toNat r6) (IntKind.bits .u64)))), (8, .int .u64 r6), (9, .int .u64 y11), (10, .int .u64 y13), (11, .int .u64 y18), (13, .int .u64 y21), (14, .int .u64 y23), (15, .int .u64 o29)] [])), (IntKind.min .u64 ≤ (y18 * 4294967296) ∧ (y18 * 4294967296) ≤ IntKind.max .u64), (IntKind.min .u64 ≤ ((y18 * 4294967296) + y21) ∧ ((y18 * 4294967296) + y21) ≤ IntKind.max .u64), (IntKind.min .u64 ≤ (o29 * (y_2 * 2 ^ (min (Int.toNat r6) (IntKind.bits .u64)))) ∧ (o29 * (y_2 * 2 ^ (min (Int.toNat r6) (IntKind.bits .u64)))) ≤ IntKind.max .u64), (IntKind.min .u64 ≤ (((y18 * 4294967296) + y21) - (o29 * (y_2 * 2 ^ (min (Int.toNat r6) (IntKind.bits .u64))))) ∧ (((y18 * 4294967296) + y21) - (o29 * (y_2 * 2 ^ (min (Int.toNat r6) (IntKind.bits .u64))))) ≤ IntKind.max .u64), ((.int .u64 (((y18 * 4294967296) + y21) - (o29 * (y_2 * 2 ^ (min (Int.toNat r6) (IntKind.bits .u64))))) : AV) = .int .u64 y56), (y11 ≠ (0 : Int)), (IntKind.min .u64 ≤ (Int.tdiv y56 y11) ∧ (Int.tdiv y56 y11) ≤ IntKind.max .u64), (IntKind.min .u64 ≤ ((Int.tdiv y56 y11) * y11) ∧ ((Int.tdiv y56 y11) * y11) ≤ IntKind.max .u64), (IntKind.min .u64 ≤ (y56 - ((Int.tdiv y56 y11) * y11)) ∧ (y56 - ((Int.tdiv y56 y11) * y11)) ≤ IntKind.max .u64), ((.int .u64 (y_2 * 2 ^ (min (Int.toNat r6) (IntKind.bits .u64))) : AV) = .int .u64 (y_2 * 2 ^ (min (Int.toNat r6) (IntKind.bits .u64)))), ((.int .u64 r6 : AV) = .int .u64 r6), ((.int .u64 y11 : AV) = .int .u64 y11), ((.int .u64 y13 : AV) = .int .u64 y13), ((.int .u64 y23 : AV) = .int .u64 y23), ((.int .u64 o29 : AV) = .int .u64 o29), ((.int .u64 (y56 - ((Int.tdiv y56 y11) * y11)) : AV) = .int .u64 (y56 - ((Int.tdiv y56 y11) * y11))), ((.int .u64 y56 : AV) = .int .u64 y56), ((.int .u64 (Int.tdiv y56 y11) : AV) = .int .u64 (Int.tdiv y56 y11)), (Does Try.prog G0 0 (.loop (bodyAt Try.prog 44 [1, 1, 1, 1, 1, 1, 1, 1, 1, 1, 1, 1, 1, 1, 1, 1, 1, 1, 0, 0, 0])) (S 135 [(2, .int .u64 (y_2 * 2 ^ (min (Int.toNat r6) (IntKind.bits .u64)))), (8, .int .u64 r6), (9, .int .u64 y11), (10, .int .u64 y13), (14, .int .u64 y23), (15, .int .u64 o29), (16, .int .u64 (y56 - ((Int.tdiv y56 y11) * y11))), (17, .int .u64 y56), (18, .int .u64 (Int.tdiv y56 y11))] []) (.exit 2) (S 135 [(2, .int .u64 (y_2 * 2 ^ (min (Int.toNat r6) (IntKind.bits .u64)))), (8, .int .u64 r6), (14, .int .u64 y23), (15, .int .u64 o29), (17, .int .u64 y56), (18, .int .u64 o61)] [])), (IntKind.min .u64 ≤ (o29 * 4294967296) ∧ (o29 * 4294967296) ≤ IntKind.max .u64), (IntKind.min .u64 ≤ ((o29 * 4294967296) + o61) ∧ ((o29 * 4294967296) + o61) ≤ IntKind.max .u64), (IntKind.min .u64 ≤ (y56 * 4294967296) ∧ (y56 * 4294967296) ≤ IntKind.max .u64), (IntKind.min .u64 ≤ ((y56 * 4294967296) + y23) ∧ ((y56 * 4294967296) + y23) ≤ IntKind.max .u64), (IntKind.min .u64 ≤ (o61 * (y_2 * 2 ^ (min (Int.toNat r6) (IntKind.bits .u64)))) ∧ (o61 * (y_2 * 2 ^ (min (Int.toNat r6) (IntKind.bits .u64)))) ≤ IntKind.max .u64), (IntKind.min .u64 ≤ (((y56 * 4294967296) + y23) - (o61 * (y_2 * 2 ^ (min (Int.toNat r6) (IntKind.bits .u64))))) ∧ (((y56 * 4294967296) + y23) - (o61 * (y_2 * 2 ^ (min (Int.toNat r6) (IntKind.bits .u64))))) ≤ IntKind.max .u64), ((.int .u64 (((y56 * 4294967296) + y23) - (o61 * (y_2 * 2 ^ (min (Int.toNat r6) (IntKind.bits .u64))))) : AV) = .int .u64 y90), ((0 : Int) ≤ r6)])) (by kernel_rfl) (by kernel_rfl) (allOk_append.2 ⟨⟨(beq_f c1), ok1 (decide_eq_false c2)⟩, ⟨(beq_f c3), rfl, (noLZ y_2 r6 h7), h8, h9, h10, (by decide), (congrArg _ (Option.some.inj h12)), (congrArg _ (Option.some.inj h14)), h9, h15, h16, h17, (congrArg _ (Option.some.inj h19)), h9, h20, (by decide), (congrArg _ (Option.some.inj h22)), (congrArg _ (Option.some.inj h24)), h25, h26, h27, h28, rfl, rfl, rfl, rfl, rfl, rfl, rfl, rfl, rfl, (math_bits_Div64_L29_does y_2 r6 y11 y13 y18 y21 y23 (s := ((Int.tdiv y18 y11), (y18 - ((Int.tdiv y18 y11) * y11)))) (r := o29) hl29), h52, h53, h54, h55, (congrArg _ (Option.some.inj h57)), h25, h58, h59, h60, rfl, rfl, rfl, rfl, rfl, rfl, rfl, rfl, rfl, (math_bits_Div64_L61_does y_2 r6 y11 y13 y23 o29 y56 (s := ((y56 - ((Int.tdiv y56 y11) * y11)), (Int.tdiv y56 y11))) (r := o61) hl61), h84, h85, h86, h87, h88, h89, (congrArg _ (Option.some.inj h91)), ok1 h9⟩⟩)
theorem math_bits_Div64_ret (hi_0 : Int) (lo_1 : Int) (y_2 : Int) (r : (Int × Int)) (h : math_bits_Div64 hi_0 lo_1 y_2 = some r) : Ret Try.prog G0 44 [.int .u64 hi_0, .int .u64 lo_1, .int .u64 y_2] (.tup [.int .u64 r.1, .int .u64 r.2]) [] := by
  unfold math_bits_Div64 at h
  rcases ite_some h with ⟨c1, h⟩ | ⟨c1, h⟩
  · cases h
  · rcases ite_some h with ⟨c2, h⟩ | ⟨c2, h⟩
    · cases h
    · rcases ite_some h with ⟨c3, h⟩ | ⟨c3, h⟩
      · obtain ⟨h4, h⟩ := guard_some h
        obtain ⟨h5, h⟩ := guard_some h
        simp only [Option.some.injEq] at h
        subst h
        exact math_bits_Div64_2 hi_0 lo_1 y_2 c1 c2 c3 h4 h5
      · obtain ⟨r6, h7, h⟩ := bind_some h
        obtain ⟨h8, h⟩ := guard_some h
        obtain ⟨h9, h⟩ := guard_some h
        obtain ⟨h10, h⟩ := guard_some h
        obtain ⟨y11, h12, h⟩ := bind_some h
        obtain ⟨y13, h14, h⟩ := bind_some h
        obtain ⟨h15, h⟩ := guard_some h
        obtain ⟨h16, h⟩ := guard_some h
        obtain ⟨h17, h⟩ := guard_some h
        obtain ⟨y18, h19, h⟩ := bind_some h
        obtain ⟨h20, h⟩ := guard_some h
        obtain ⟨y21, h22, h⟩ := bind_some h
        obtain ⟨y23, h24, h⟩ := bind_some h
        obtain ⟨h25, h⟩ := guard_some h
        obtain ⟨h26, h⟩ := guard_some h
        obtain ⟨h27, h⟩ := guard_some h
        obtain ⟨h28, h⟩ := guard_some h
        obtain ⟨o29, hl29, h⟩ := bind_some h
        obtain ⟨h52, h⟩ := guard_some h
        obtain ⟨h53, h⟩ := guard_some h
        obtain ⟨h54, h⟩ := guard_some h
        obtain ⟨h55, h⟩ := guard_some h
        obtain ⟨y56, h57, h⟩ := bind_some h
        obtain ⟨h58, h⟩ := guard_some h
        obtain ⟨h59, h⟩ := guard_some h
        obtain ⟨h60, h⟩ := guard_some h
        obtain ⟨o61, hl61, h⟩ := bind_some h
        obtain ⟨h84, h⟩ := guard_some h
        obtain ⟨h85, h⟩ := guard_some h
        obtain ⟨h86, h⟩ := guard_some h
        obtain ⟨h87, h⟩ := guard_some h
        obtain ⟨h88, h⟩ := guard_some h
        obtain ⟨h89, h⟩ := guard_some h
        obtain ⟨y90, h91, h⟩ := bind_some h
        simp only [Option.some.injEq] at h
        subst h
        exact math_bits_Div64_3 hi_0 lo_1 y_2 c1 c2 c3 r6 h7 h8 h9 h10 y11 h12 y13 h14 h15 h16 h17 y18 h19 h20 y21 h22 y23 h24 h25 h26 h27 h28 o29 hl29 h52 h53 h54 h55 y56 h57 h58 h59 h60 o61 hl61 h84 h85 h86 h87 h88 h89 y90 h91
noncomputable def money_Ratio (n_0 : Int) (num_1 : Int) : Option (Int × Int) :=
  (money_Fits n_0).bind fun r1 =>
  if r1 = true then
    (money_size 1000).bind fun r4 =>
    (money_size n_0).bind fun r6 =>
    (money_size num_1).bind fun r8 =>
    (math_bits_Mul64 r6 r8).bind fun r10 =>
    if r10.1 ≥ r4 then
      some (0, 13)
    else
      (math_bits_Div64 r10.1 r10.2 r4).bind fun r13 =>
      if r13.1 > (1125899906842624 : Int) then
        some (0, 13)
      else
        if (decide (n_0 < (0 : Int))) = (!((decide (num_1 < (0 : Int))) == false)) then
          if InR .i64 (r13.1) then
            some (r13.1, 0)
          else none
        else
          if InR .i64 (r13.1) then
            if InR .i64 (0 - r13.1) then
              some ((0 - r13.1), 0)
            else none
          else none
  else
    some (0, 13)
def money_Ratio_h1 (n_0 : Int) (r1 : Bool) : List CH := (cs 3 ((.ret none [.int .i64 n_0] (.bool r1) []) :: (cs 2 [])))
def money_Ratio_h2 (n_0 : Int) (num_1 : Int) (r4 : Int) (r6 : Int) (r8 : Int) (r10 : (Int × Int)) : List CH := ((.br false) :: (cs 11 ((.br false) :: (cs 3 ((.br false) :: (.op none .c) :: (.ret none [.int .i64 1000] (.int .u64 r4) []) :: (cs 2 ((.ret none [.int .i64 n_0] (.int .u64 r6) []) :: (.op none .c) :: (.ret none [.int .i64 num_1] (.int .u64 r8) []) :: (.ret none [.int .u64 r6, .int .u64 r8] (.tup [.int .u64 r10.1, .int .u64 r10.2]) []) :: (cs 7 [.op none .a]))))))))
def money_Ratio_h3 (r4 : Int) (r10 : (Int × Int)) (r13 : (Int × Int)) : List CH := ((.br false) :: (cs 3 ((.ret none [.int .u64 r10.1, .int .u64 r10.2, .int .u64 r4] (.tup [.int .u64 r13.1, .int .u64 r13.2]) []) :: (cs 6 [.op none .a]))))
def money_Ratio_h4  : List CH := ((.br false) :: (cs 3 ((.br false) :: (cs 2 ((.br false) :: (.op none .c) :: (.op none .a) :: (.br false) :: (.op none .c) :: (.op none .a) :: (.op none .c) :: (.op none .a) :: (cs 4 []))))))
def money_Ratio_p5 (n_0 : Int) (num_1 : Int) (r1 : Bool) (r4 : Int) (r6 : Int) (r8 : Int) (r10 : (Int × Int)) : List Prop := [((!r1) = false), (false = false), (false = false), ((.int .i64 1000 : AV) = .int .i64 1000), (Ret Try.prog G0 42 [.int .i64 1000] (.int .u64 r4) []), ((.int .i64 n_0 : AV) = .int .i64 n_0), (Ret Try.prog G0 42 [.int .i64 n_0] (.int .u64 r6) []), ((.int .i64 num_1 : AV) = .int .i64 num_1), (Ret Try.prog G0 42 [.int .i64 num_1] (.int .u64 r8) []), ((.int .u64 r6 : AV) = .int .u64 r6), ((.int .u64 r8 : AV) = .int .u64 r8), (Ret Try.prog G0 43 [.int .u64 r6, .int .u64 r8] (.tup [.int .u64 r10.1, .int .u64 r10.2]) [])]
theorem money_Ratio_p5q (n_0 : Int) (num_1 : Int) (r1 : Bool) (c3 : r1 = true) (r4 : Int) (h5 : money_size 1000 = some r4) (r6 : Int) (h7 : money_size n_0 = some r6) (r8 : Int) (h9 : money_size num_1 = some r8) (r10 : (Int × Int)) (h11 : math_bits_Mul64 r6 r8 = some r10) : allOk (money_Ratio_p5 n_0 num_1 r1 r4 r6 r8 r10) := ⟨(not_f c3), rfl, rfl, rfl, (money_size_ret 1000 r4 h5), rfl, (money_size_ret n_0 r6 h7), rfl, (money_size_ret num_1 r8 h9), rfl, rfl, ok1 (math_bits_Mul64_ret r6 r8 r10 h11)⟩
def money_Ratio_p6 (r4 : Int) (r10 : (Int × Int)) (r13 : (Int × Int)) : List Prop := [((decide (r10.1 ≥ r4)) = false), ((.int .u64 r10.1 : AV) = .int .u64 r10.1), ((.int .u64 r10.2 : AV) = .int .u64 r10.2), ((.int .u64 r4 : AV) = .int .u64 r4), (Ret Try.prog G0 44 [.int .u64 r10.1, .int .u64 r10.2, .int .u64 r4] (.tup [.int .u64 r13.1, .int .u64 r13.2]) [])]
theorem money_Ratio_p6q (r4 : Int) (r10 : (Int × Int)) (c12 : ¬ (r10.1 ≥ r4)) (r13 : (Int × Int)) (h14 : math_bits_Div64 r10.1 r10.2 r4 = some r13) : allOk (money_Ratio_p6 r4 r10 r13) := ⟨(decide_eq_false c12), rfl, rfl, rfl, ok1 (math_bits_Div64_ret r10.1 r10.2 r4 r13 h14)⟩
def money_Ratio_p7 (r13 : (Int × Int)) : List Prop := [((decide (r13.1 > (1125899906842624 : Int))) = false), (false = false), (false = false), ((decide (r13.1 > (1125899906842624 : Int))) = false)]
theorem money_Ratio_p7q (r13 : (Int × Int)) (c15 : ¬ (r13.1 > (1125899906842624 : Int))) : allOk (money_Ratio_p7 r13) := ⟨(decide_eq_false c15), rfl, rfl, ok1 (decide_eq_false c15)⟩
theorem money_Ratio_0 (n_0 : Int) (num_1 : Int) (r1 : Bool) (h2 : money_Fits n_0 = some r1) (c3 : r1 = true) (r4 : Int) (h5 : money_size 1000 = some r4) (r6 : Int) (h7 : money_size n_0 = some r6) (r8 : Int) (h9 : money_size num_1 = some r8) (r10 : (Int × Int)) (h11 : math_bits_Mul64 r6 r8 = some r10) (c12 : r10.1 ≥ r4) : Ret Try.prog G0 31 [.int .i64 n_0, .int .i64 num_1, .int .i64 1000, .int .i64 1] (.tup [.int .i64 0, .int .i64 13]) [] :=
  Ret.of_view 400 ((money_Ratio_h1 n_0 r1) ++ ((money_Ratio_h2 n_0 num_1 r4 r6 r8 r10) ++ ((.br true) :: (cs 2 [])))) [] (ps := ([((.int .i64 n_0 : AV) = .int .i64 n_0), (Ret Try.prog G0 41 [.int .i64 n_0] (.bool r1) [])] ++ ((money_Ratio_p5 n_0 num_1 r1 r4 r6 r8 r10) ++ [((decide (r10.1 ≥ r4)) = true)]))) (by kernel_rfl) (by kernel_rfl) (allOk_append.2 ⟨⟨rfl, ok1 (money_Fits_ret n_0 r1 h2)⟩, (allOk_append.2 ⟨(money_Ratio_p5q n_0 num_1 r1 c3 r4 h5 r6 h7 r8 h9 r10 h11), (ok1 (decide_eq_true c12))⟩)⟩)
theorem money_Ratio_1 (n_0 : Int) (num_1 : Int) (r1 : Bool) (h2 : money_Fits n_0 = some r1) (c3 : r1 = true) (r4 : Int) (h5 : money_size 1000 = some r4) (r6 : Int) (h7 : money_size n_0 = some r6) (r8 : Int) (h9 : money_size num_1 = some r8) (r10 : (Int × Int)) (h11 : math_bits_Mul64 r6 r8 = some r10) (c12 : ¬ (r10.1 ≥ r4)) (r13 : (Int × Int)) (h14 : math_bits_Div64 r10.1 r10.2 r4 = some r13) (c15 : r13.1 > (1125899906842624 : Int)) : Ret Try.prog G0 31 [.int .i64 n_0, .int .i64 num_1, .int .i64 1000, .int .i64 1] (.tup [.int .i64 0, .int .i64 13]) [] :=
  Ret.of_view 400 ((money_Ratio_h1 n_0 r1) ++ ((money_Ratio_h2 n_0 num_1 r4 r6 r8 r10) ++ ((money_Ratio_h3 r4 r10 r13) ++ ((.br true) :: (cs 2 []))))) [] (ps := ([((.int .i64 n_0 : AV) = .int .i64 n_0), (Ret Try.prog G0 41 [.int .i64 n_0] (.bool r1) [])] ++ ((money_Ratio_p5 n_0 num_1 r1 r4 r6 r8 r10) ++ ((money_Ratio_p6 r4 r10 r13) ++ [((decide (r13.1 > (1125899906842624 : Int))) = true)])))) (by kernel_rfl) (by kernel_rfl) (allOk_append.2 ⟨⟨rfl, ok1 (money_Fits_ret n_0 r1 h2)⟩, (allOk_append.2 ⟨(money_Ratio_p5q n_0 num_1 r1 c3 r4 h5 r6 h7 r8 h9 r10 h11), (allOk_append.2 ⟨(money_Ratio_p6q r4 r10 c12 r13 h14), (ok1 (decide_eq_true c15))⟩)⟩)⟩)
theorem money_Ratio_2 (n_0 : Int) (num_1 : Int) (r1 : Bool) (h2 : money_Fits n_0 = some r1) (c3 : r1 = true) (r4 : Int) (h5 : money_size 1000 = some r4) (r6 : Int) (h7 : money_size n_0 = some r6) (r8 : Int) (h9 : money_size num_1 = some r8) (r10 : (Int × Int)) (h11 : math_bits_Mul64 r6 r8 = some r10) (c12 : ¬ (r10.1 ≥ r4)) (r13 : (Int × Int)) (h14 : math_bits_Div64 r10.1 r10.2 r4 = some r13) (c15 : ¬ (r13.1 > (1125899906842624 : Int))) (c16 : (decide (n_0 < (0 : Int))) = (!((decide (num_1 < (0 : Int))) == false))) (h17 : InR .i64 (r13.1)) : Ret Try.prog G0 31 [.int .i64 n_0, .int .i64 num_1, .int .i64 1000, .int .i64 1] (.tup [.int .i64 r13.1, .int .i64 0]) [] :=
  Ret.of_view 400 ((money_Ratio_h1 n_0 r1) ++ ((money_Ratio_h2 n_0 num_1 r4 r6 r8 r10) ++ ((money_Ratio_h3 r4 r10 r13) ++ ((money_Ratio_h4) ++ ((.br false) :: (.op none .c) :: (.op none .w) :: (cs 2 [])))))) [] (ps := ([((.int .i64 n_0 : AV) = .int .i64 n_0), (Ret Try.prog G0 41 [.int .i64 n_0] (.bool r1) [])] ++ ((money_Ratio_p5 n_0 num_1 r1 r4 r6 r8 r10) ++ ((money_Ratio_p6 r4 r10 r13) ++ ((money_Ratio_p7 r13) ++ [((!((decide (n_0 < (0 : Int))) == (!((decide (num_1 < (0 : Int))) == false)))) = false), (IntKind.min .i64 ≤ r13.1 ∧ r13.1 ≤ IntKind.max .i64)]))))) (by kernel_rfl) (by kernel_rfl) (allOk_append.2 ⟨⟨rfl, ok1 (money_Fits_ret n_0 r1 h2)⟩, (allOk_append.2 ⟨(money_Ratio_p5q n_0 num_1 r1 c3 r4 h5 r6 h7 r8 h9 r10 h11), (allOk_append.2 ⟨(money_Ratio_p6q r4 r10 c12 r13 h14), (allOk_append.2 ⟨(money_Ratio_p7q r13 c15), ⟨(not_f (beq_t c16)), ok1 h17⟩⟩)⟩)⟩)⟩)
theorem money_Ratio_3 (n_0 : Int) (num_1 : Int) (r1 : Bool) (h2 : money_Fits n_0 = some r1) (c3 : r1 = true) (r4 : Int) (h5 : money_size 1000 = some r4) (r6 : Int) (h7 : money_size n_0 = some r6) (r8 : Int) (h9 : money_size num_1 = some r8) (r10 : (Int × Int)) (h11 : math_bits_Mul64 r6 r8 = some r10) (c12 : ¬ (r10.1 ≥ r4)) (r13 : (Int × Int)) (h14 : math_bits_Div64 r10.1 r10.2 r4 = some r13) (c15 : ¬ (r13.1 > (1125899906842624 : Int))) (c16 : ¬ ((decide (n_0 < (0 : Int))) = (!((decide (num_1 < (0 : Int))) == false)))) (h18 : InR .i64 (r13.1)) (h19 : InR .i64 (0 - r13.1)) : Ret Try.prog G0 31 [.int .i64 n_0, .int .i64 num_1, .int .i64 1000, .int .i64 1] (.tup [.int .i64 (0 - r13.1), .int .i64 0]) [] :=
  Ret.of_view 400 ((money_Ratio_h1 n_0 r1) ++ ((money_Ratio_h2 n_0 num_1 r4 r6 r8 r10) ++ ((money_Ratio_h3 r4 r10 r13) ++ ((money_Ratio_h4) ++ ((.br true) :: (.op none .c) :: (.op none .w) :: (.op none .w) :: (cs 2 [])))))) [] (ps := ([((.int .i64 n_0 : AV) = .int .i64 n_0), (Ret Try.prog G0 41 [.int .i64 n_0] (.bool r1) [])] ++ ((money_Ratio_p5 n_0 num_1 r1 r4 r6 r8 r10) ++ ((money_Ratio_p6 r4 r10 r13) ++ ((money_Ratio_p7 r13) ++ [((!((decide (n_0 < (0 : Int))) == (!((decide (num_1 < (0 : Int))) == false)))) = true), (IntKind.min .i64 ≤ r13.1 ∧ r13.1 ≤ IntKind.max .i64), (IntKind.min .i64 ≤ (0 - r13.1) ∧ (0 - r13.1) ≤ IntKind.max .i64)]))))) (by kernel_rfl) (by kernel_rfl) (allOk_append.2 ⟨⟨rfl, ok1 (money_Fits_ret n_0 r1 h2)⟩, (allOk_append.2 ⟨(money_Ratio_p5q n_0 num_1 r1 c3 r4 h5 r6 h7 r8 h9 r10 h11), (allOk_append.2 ⟨(money_Ratio_p6q r4 r10 c12 r13 h14), (allOk_append.2 ⟨(money_Ratio_p7q r13 c15), ⟨(not_t (beq_f c16)), h18, ok1 h19⟩⟩)⟩)⟩)⟩)
theorem money_Ratio_4 (n_0 : Int) (num_1 : Int) (r1 : Bool) (h2 : money_Fits n_0 = some r1) (c3 : ¬ (r1 = true)) : Ret Try.prog G0 31 [.int .i64 n_0, .int .i64 num_1, .int .i64 1000, .int .i64 1] (.tup [.int .i64 0, .int .i64 13]) [] :=
  Ret.of_view 400 ((money_Ratio_h1 n_0 r1) ++ ((.br true) :: (cs 2 []))) [] (ps := ([((.int .i64 n_0 : AV) = .int .i64 n_0), (Ret Try.prog G0 41 [.int .i64 n_0] (.bool r1) [])] ++ [((!r1) = true)])) (by kernel_rfl) (by kernel_rfl) (allOk_append.2 ⟨⟨rfl, ok1 (money_Fits_ret n_0 r1 h2)⟩, (ok1 (not_t (eq_false_of_ne_true c3)))⟩)
theorem money_Ratio_ret (n_0 : Int) (num_1 : Int) (r : (Int × Int)) (h : money_Ratio n_0 num_1 = some r) : Ret Try.prog G0 31 [.int .i64 n_0, .int .i64 num_1, .int .i64 1000, .int .i64 1] (.tup [.int .i64 r.1, .int .i64 r.2]) [] := by
  unfold money_Ratio at h
  obtain ⟨r1, h2, h⟩ := bind_some h
  rcases ite_some h with ⟨c3, h⟩ | ⟨c3, h⟩
  · obtain ⟨r4, h5, h⟩ := bind_some h
    obtain ⟨r6, h7, h⟩ := bind_some h
    obtain ⟨r8, h9, h⟩ := bind_some h
    obtain ⟨r10, h11, h⟩ := bind_some h
    rcases ite_some h with ⟨c12, h⟩ | ⟨c12, h⟩
    · simp only [Option.some.injEq] at h
      subst h
      exact money_Ratio_0 n_0 num_1 r1 h2 c3 r4 h5 r6 h7 r8 h9 r10 h11 c12
    · obtain ⟨r13, h14, h⟩ := bind_some h
      rcases ite_some h with ⟨c15, h⟩ | ⟨c15, h⟩
      · simp only [Option.some.injEq] at h
        subst h
        exact money_Ratio_1 n_0 num_1 r1 h2 c3 r4 h5 r6 h7 r8 h9 r10 h11 c12 r13 h14 c15
      · rcases ite_some h with ⟨c16, h⟩ | ⟨c16, h⟩
        · obtain ⟨h17, h⟩ := guard_some h
          simp only [Option.some.injEq] at h
          subst h
          exact money_Ratio_2 n_0 num_1 r1 h2 c3 r4 h5 r6 h7 r8 h9 r10 h11 c12 r13 h14 c15 c16 h17
        · obtain ⟨h18, h⟩ := guard_some h
          obtain ⟨h19, h⟩ := guard_some h
          simp only [Option.some.injEq] at h
          subst h
          exact money_Ratio_3 n_0 num_1 r1 h2 c3 r4 h5 r6 h7 r8 h9 r10 h11 c12 r13 h14 c15 c16 h18 h19
  · simp only [Option.some.injEq] at h
    subst h
    exact money_Ratio_4 n_0 num_1 r1 h2 c3
noncomputable def discount_Amount (d_0 : Tapi_Discount) (cents_1 : Int) : Option Int :=
  (discount_Check d_0).bind fun r1 =>
  if r1 = (0 : Int) then
    if cents_1 < (0 : Int) then
      some 0
    else
      if cents_1 > (1125899906842624 : Int) then
        some 0
      else
        if d_0.Kind = (1 : Int) then
          (money_Ratio cents_1 d_0.Amount).bind fun r7 =>
          some r7.1
        else
          if d_0.Kind = (2 : Int) then
            some (if cents_1 < d_0.Amount then cents_1 else d_0.Amount)
          else
            some cents_1
  else
    some 0
def discount_Amount_h1 (d_0 : Tapi_Discount) (r1 : Int) : List CH := (cs 3 [.ret none [.agg (Tapi_Discount.enc d_0)] (.int .i64 r1) [], .op none .a, .op none .c])
def discount_Amount_h2  : List CH := ((.op (some false) .c) :: (.op none .a) :: (cs 2 []))
def discount_Amount_h3  : List CH := [.op (some false) .c, .op none .a, .op none .c]
def discount_Amount_h4  : List CH := ((.br false) :: (cs 2 [.op none .a, .op none .c]))
def discount_Amount_h5  : List CH := [.br false, .op none .a, .op none .c]
theorem discount_Amount_0 (d_0 : Tapi_Discount) (cents_1 : Int) (r1 : Int) (h2 : discount_Check d_0 = some r1) (c3 : r1 = (0 : Int)) (c4 : cents_1 < (0 : Int)) : Ret Try.prog G0 16 [.agg (Tapi_Discount.enc d_0), .int .i64 cents_1] (.int .i64 0) [] :=
  Ret.of_view 400 ((discount_Amount_h1 d_0 r1) ++ ((discount_Amount_h2) ++ ((.op (some true) .c) :: (cs 2 [.br true, .op none .c])))) [] (ps := ([((.agg (Tapi_Discount.enc d_0) : AV) = .agg (Tapi_Discount.enc d_0)), (Ret Try.prog G0 18 [.agg (Tapi_Discount.enc d_0)] (.int .i64 r1) [])] ++ ([((!(r1 == (0 : Int))) = false)] ++ [((decide (cents_1 < (0 : Int))) = true), (true = true)]))) (by kernel_rfl) (by kernel_rfl) (allOk_append.2 ⟨⟨rfl, ok1 (discount_Check_ret d_0 r1 h2)⟩, (allOk_append.2 ⟨(ok1 (not_f (beq_t c3))), ⟨(decide_eq_true c4), ok1 rfl⟩⟩)⟩)
theorem discount_Amount_1 (d_0 : Tapi_Discount) (cents_1 : Int) (r1 : Int) (h2 : discount_Check d_0 = some r1) (c3 : r1 = (0 : Int)) (c4 : ¬ (cents_1 < (0 : Int))) (c5 : cents_1 > (1125899906842624 : Int)) : Ret Try.prog G0 16 [.agg (Tapi_Discount.enc d_0), .int .i64 cents_1] (.int .i64 0) [] :=
  Ret.of_view 400 ((discount_Amount_h1 d_0 r1) ++ ((discount_Amount_h2) ++ ((discount_Amount_h3) ++ [.br true, .op none .c]))) [] (ps := ([((.agg (Tapi_Discount.enc d_0) : AV) = .agg (Tapi_Discount.enc d_0)), (Ret Try.prog G0 18 [.agg (Tapi_Discount.enc d_0)] (.int .i64 r1) [])] ++ ([((!(r1 == (0 : Int))) = false)] ++ ([((decide (cents_1 < (0 : Int))) = false)] ++ [((decide (cents_1 > (1125899906842624 : Int))) = true)])))) (by kernel_rfl) (by kernel_rfl) (allOk_append.2 ⟨⟨rfl, ok1 (discount_Check_ret d_0 r1 h2)⟩, (allOk_append.2 ⟨(ok1 (not_f (beq_t c3))), (allOk_append.2 ⟨(ok1 (decide_eq_false c4)), (ok1 (decide_eq_true c5))⟩)⟩)⟩)
theorem discount_Amount_2 (d_0 : Tapi_Discount) (cents_1 : Int) (r1 : Int) (h2 : discount_Check d_0 = some r1) (c3 : r1 = (0 : Int)) (c4 : ¬ (cents_1 < (0 : Int))) (c5 : ¬ (cents_1 > (1125899906842624 : Int))) (c6 : d_0.Kind = (1 : Int)) (r7 : (Int × Int)) (h8 : money_Ratio cents_1 d_0.Amount = some r7) : Ret Try.prog G0 16 [.agg (Tapi_Discount.enc d_0), .int .i64 cents_1] (.int .i64 r7.1) [] :=
  Ret.of_view 400 ((discount_Amount_h1 d_0 r1) ++ ((discount_Amount_h2) ++ ((discount_Amount_h3) ++ ((discount_Amount_h4) ++ ((.br true) :: (cs 3 ((.ret none [.int .i64 cents_1, .int .i64 d_0.Amount, .int .i64 1000, .int .i64 1] (.tup [.int .i64 r7.1, .int .i64 r7.2]) []) :: (cs 7 [])))))))) [] (ps := ([((.agg (Tapi_Discount.enc d_0) : AV) = .agg (Tapi_Discount.enc d_0)), (Ret Try.prog G0 18 [.agg (Tapi_Discount.enc d_0)] (.int .i64 r1) [])] ++ ([((!(r1 == (0 : Int))) = false)] ++ ([((decide (cents_1 < (0 : Int))) = false)] ++ ([((decide (cents_1 > (1125899906842624 : Int))) = false)] ++ [((d_0.Kind == (1 : Int)) = true), ((.int .i64 cents_1 : AV) = .int .i64 cents_1), ((.int .i64 d_0.Amount : AV) = .int .i64 d_0.Amount), ((.int .i64 1000 : AV) = .int .i64 1000), ((.int .i64 1 : AV) = .int .i64 1), (Ret Try.prog G0 31 [.int .i64 cents_1, .int .i64 d_0.Amount, .int .i64 1000, .int .i64 1] (.tup [.int .i64 r7.1, .int .i64 r7.2]) [])]))))) (by kernel_rfl) (by kernel_rfl) (allOk_append.2 ⟨⟨rfl, ok1 (discount_Check_ret d_0 r1 h2)⟩, (allOk_append.2 ⟨(ok1 (not_f (beq_t c3))), (allOk_append.2 ⟨(ok1 (decide_eq_false c4)), (allOk_append.2 ⟨(ok1 (decide_eq_false c5)), ⟨(beq_t c6), rfl, rfl, rfl, rfl, ok1 (money_Ratio_ret cents_1 d_0.Amount r7 h8)⟩⟩)⟩)⟩)⟩)
theorem discount_Amount_3 (d_0 : Tapi_Discount) (cents_1 : Int) (r1 : Int) (h2 : discount_Check d_0 = some r1) (c3 : r1 = (0 : Int)) (c4 : ¬ (cents_1 < (0 : Int))) (c5 : ¬ (cents_1 > (1125899906842624 : Int))) (c6 : ¬ (d_0.Kind = (1 : Int))) (c9 : d_0.Kind = (2 : Int)) : Ret Try.prog G0 16 [.agg (Tapi_Discount.enc d_0), .int .i64 cents_1] (.int .i64 (if cents_1 < d_0.Amount then cents_1 else d_0.Amount)) [] :=
  Ret.of_view 400 ((discount_Amount_h1 d_0 r1) ++ ((discount_Amount_h2) ++ ((discount_Amount_h3) ++ ((discount_Amount_h4) ++ ((discount_Amount_h5) ++ ((.br true) :: (cs 3 [.op none .a, .op none .c]))))))) [] (ps := ([((.agg (Tapi_Discount.enc d_0) : AV) = .agg (Tapi_Discount.enc d_0)), (Ret Try.prog G0 18 [.agg (Tapi_Discount.enc d_0)] (.int .i64 r1) [])] ++ ([((!(r1 == (0 : Int))) = false)] ++ ([((decide (cents_1 < (0 : Int))) = false)] ++ ([((decide (cents_1 > (1125899906842624 : Int))) = false)] ++ ([((d_0.Kind == (1 : Int)) = false)] ++ [((d_0.Kind == (2 : Int)) = true)])))))) (by kernel_rfl) (by kernel_rfl) (allOk_append.2 ⟨⟨rfl, ok1 (discount_Check_ret d_0 r1 h2)⟩, (allOk_append.2 ⟨(ok1 (not_f (beq_t c3))), (allOk_append.2 ⟨(ok1 (decide_eq_false c4)), (allOk_append.2 ⟨(ok1 (decide_eq_false c5)), (allOk_append.2 ⟨(ok1 (beq_f c6)), (ok1 (beq_t c9))⟩)⟩)⟩)⟩)⟩)
theorem discount_Amount_4 (d_0 : Tapi_Discount) (cents_1 : Int) (r1 : Int) (h2 : discount_Check d_0 = some r1) (c3 : r1 = (0 : Int)) (c4 : ¬ (cents_1 < (0 : Int))) (c5 : ¬ (cents_1 > (1125899906842624 : Int))) (c6 : ¬ (d_0.Kind = (1 : Int))) (c9 : ¬ (d_0.Kind = (2 : Int))) : Ret Try.prog G0 16 [.agg (Tapi_Discount.enc d_0), .int .i64 cents_1] (.int .i64 cents_1) [] :=
  Ret.of_view 400 ((discount_Amount_h1 d_0 r1) ++ ((discount_Amount_h2) ++ ((discount_Amount_h3) ++ ((discount_Amount_h4) ++ ((discount_Amount_h5) ++ ((.br false) :: (cs 2 []))))))) [] (ps := ([((.agg (Tapi_Discount.enc d_0) : AV) = .agg (Tapi_Discount.enc d_0)), (Ret Try.prog G0 18 [.agg (Tapi_Discount.enc d_0)] (.int .i64 r1) [])] ++ ([((!(r1 == (0 : Int))) = false)] ++ ([((decide (cents_1 < (0 : Int))) = false)] ++ ([((decide (cents_1 > (1125899906842624 : Int))) = false)] ++ ([((d_0.Kind == (1 : Int)) = false)] ++ [((d_0.Kind == (2 : Int)) = false)])))))) (by kernel_rfl) (by kernel_rfl) (allOk_append.2 ⟨⟨rfl, ok1 (discount_Check_ret d_0 r1 h2)⟩, (allOk_append.2 ⟨(ok1 (not_f (beq_t c3))), (allOk_append.2 ⟨(ok1 (decide_eq_false c4)), (allOk_append.2 ⟨(ok1 (decide_eq_false c5)), (allOk_append.2 ⟨(ok1 (beq_f c6)), (ok1 (beq_f c9))⟩)⟩)⟩)⟩)⟩)
theorem discount_Amount_5 (d_0 : Tapi_Discount) (cents_1 : Int) (r1 : Int) (h2 : discount_Check d_0 = some r1) (c3 : ¬ (r1 = (0 : Int))) : Ret Try.prog G0 16 [.agg (Tapi_Discount.enc d_0), .int .i64 cents_1] (.int .i64 0) [] :=
  Ret.of_view 400 ((discount_Amount_h1 d_0 r1) ++ ((.op (some true) .c) :: (cs 6 [.br true, .op none .c]))) [] (ps := ([((.agg (Tapi_Discount.enc d_0) : AV) = .agg (Tapi_Discount.enc d_0)), (Ret Try.prog G0 18 [.agg (Tapi_Discount.enc d_0)] (.int .i64 r1) [])] ++ [((!(r1 == (0 : Int))) = true), (true = true)])) (by kernel_rfl) (by kernel_rfl) (allOk_append.2 ⟨⟨rfl, ok1 (discount_Check_ret d_0 r1 h2)⟩, ⟨(not_t (beq_f c3)), ok1 rfl⟩⟩)
theorem discount_Amount_ret (d_0 : Tapi_Discount) (cents_1 : Int) (r : Int) (h : discount_Amount d_0 cents_1 = some r) : Ret Try.prog G0 16 [.agg (Tapi_Discount.enc d_0), .int .i64 cents_1] (.int .i64 r) [] := by
  unfold discount_Amount at h
  obtain ⟨r1, h2, h⟩ := bind_some h
  rcases ite_some h with ⟨c3, h⟩ | ⟨c3, h⟩
  · rcases ite_some h with ⟨c4, h⟩ | ⟨c4, h⟩
    · simp only [Option.some.injEq] at h
      subst h
      exact discount_Amount_0 d_0 cents_1 r1 h2 c3 c4
    · rcases ite_some h with ⟨c5, h⟩ | ⟨c5, h⟩
      · simp only [Option.some.injEq] at h
        subst h
        exact discount_Amount_1 d_0 cents_1 r1 h2 c3 c4 c5
      · rcases ite_some h with ⟨c6, h⟩ | ⟨c6, h⟩
        · obtain ⟨r7, h8, h⟩ := bind_some h
          simp only [Option.some.injEq] at h
          subst h
          exact discount_Amount_2 d_0 cents_1 r1 h2 c3 c4 c5 c6 r7 h8
        · rcases ite_some h with ⟨c9, h⟩ | ⟨c9, h⟩
          · simp only [Option.some.injEq] at h
            subst h
            exact discount_Amount_3 d_0 cents_1 r1 h2 c3 c4 c5 c6 c9
          · simp only [Option.some.injEq] at h
            subst h
            exact discount_Amount_4 d_0 cents_1 r1 h2 c3 c4 c5 c6 c9
  · simp only [Option.some.injEq] at h
    subst h
    exact discount_Amount_5 d_0 cents_1 r1 h2 c3
noncomputable def tollwayref24_Amount (d_0 : Tapi_Discount) (cents_1 : Int) : Option Int :=
  (tollwayref24_Check d_0).bind fun r1 =>
  if r1 = (0 : Int) then
    if cents_1 < (0 : Int) then
      some 0
    else
      if cents_1 > (1125899906842624 : Int) then
        some 0
      else
        if d_0.Kind = (1 : Int) then
          if InR .i64 (cents_1 * d_0.Amount) then
            if InR .i64 (Int.tdiv (cents_1 * d_0.Amount) 1000) then
              some (Int.tdiv (cents_1 * d_0.Amount) 1000)
            else none
          else none
        else
          if d_0.Kind = (2 : Int) then
            if d_0.Amount < cents_1 then
              some d_0.Amount
            else
              some cents_1
          else
            some cents_1
  else
    some 0
def tollwayref24_Amount_h1 (d_0 : Tapi_Discount) (r1 : Int) : List CH := (cs 3 [.ret none [.agg (Tapi_Discount.enc d_0)] (.int .i64 r1) [], .op none .a, .op none .c])
def tollwayref24_Amount_h2  : List CH := ((.op (some false) .c) :: (.op none .a) :: (cs 2 []))
def tollwayref24_Amount_h3  : List CH := [.op (some false) .c, .op none .a, .op none .c]
def tollwayref24_Amount_h4  : List CH := ((.br false) :: (cs 2 [.op none .a]))
def tollwayref24_Amount_h5  : List CH := ((.br false) :: (cs 2 [.op none .a, .op none .c]))
def tollwayref24_Amount_h6  : List CH := ((.op (some true) .c) :: (cs 2 [.op none .a, .op none .c]))
theorem tollwayref24_Amount_0 (d_0 : Tapi_Discount) (cents_1 : Int) (r1 : Int) (h2 : tollwayref24_Check d_0 = some r1) (c3 : r1 = (0 : Int)) (c4 : cents_1 < (0 : Int)) : Ret Try.prog G0 30 [.agg (Tapi_Discount.enc d_0), .int .i64 cents_1] (.int .i64 0) [] :=
  Ret.of_view 400 ((tollwayref24_Amount_h1 d_0 r1) ++ ((tollwayref24_Amount_h2) ++ ((.op (some true) .c) :: (cs 2 [.br true, .op none .c])))) [] (ps := ([((.agg (Tapi_Discount.enc d_0) : AV) = .agg (Tapi_Discount.enc d_0)), (Ret Try.prog G0 40 [.agg (Tapi_Discount.enc d_0)] (.int .i64 r1) [])] ++ ([((!(r1 == (0 : Int))) = false)] ++ [((decide (cents_1 < (0 : Int))) = true), (true = true)]))) (by kernel_rfl) (by kernel_rfl) (allOk_append.2 ⟨⟨rfl, ok1 (tollwayref24_Check_ret d_0 r1 h2)⟩, (allOk_append.2 ⟨(ok1 (not_f (beq_t c3))), ⟨(decide_eq_true c4), ok1 rfl⟩⟩)⟩)
theorem tollwayref24_Amount_1 (d_0 : Tapi_Discount) (cents_1 : Int) (r1 : Int) (h2 : tollwayref24_Check d_0 = some r1) (c3 : r1 = (0 : Int)) (c4 : ¬ (cents_1 < (0 : Int))) (c5 : cents_1 > (1125899906842624 : Int)) : Ret Try.prog G0 30 [.agg (Tapi_Discount.enc d_0), .int .i64 cents_1] (.int .i64 0) [] :=
  Ret.of_view 400 ((tollwayref24_Amount_h1 d_0 r1) ++ ((tollwayref24_Amount_h2) ++ ((tollwayref24_Amount_h3) ++ [.br true, .op none .c]))) [] (ps := ([((.agg (Tapi_Discount.enc d_0) : AV) = .agg (Tapi_Discount.enc d_0)), (Ret Try.prog G0 40 [.agg (Tapi_Discount.enc d_0)] (.int .i64 r1) [])] ++ ([((!(r1 == (0 : Int))) = false)] ++ ([((decide (cents_1 < (0 : Int))) = false)] ++ [((decide (cents_1 > (1125899906842624 : Int))) = true)])))) (by kernel_rfl) (by kernel_rfl) (allOk_append.2 ⟨⟨rfl, ok1 (tollwayref24_Check_ret d_0 r1 h2)⟩, (allOk_append.2 ⟨(ok1 (not_f (beq_t c3))), (allOk_append.2 ⟨(ok1 (decide_eq_false c4)), (ok1 (decide_eq_true c5))⟩)⟩)⟩)
theorem tollwayref24_Amount_2 (d_0 : Tapi_Discount) (cents_1 : Int) (r1 : Int) (h2 : tollwayref24_Check d_0 = some r1) (c3 : r1 = (0 : Int)) (c4 : ¬ (cents_1 < (0 : Int))) (c5 : ¬ (cents_1 > (1125899906842624 : Int))) (c6 : d_0.Kind = (1 : Int)) (h7 : InR .i64 (cents_1 * d_0.Amount)) (h8 : InR .i64 (Int.tdiv (cents_1 * d_0.Amount) 1000)) : Ret Try.prog G0 30 [.agg (Tapi_Discount.enc d_0), .int .i64 cents_1] (.int .i64 (Int.tdiv (cents_1 * d_0.Amount) 1000)) [] :=
  Ret.of_view 400 ((tollwayref24_Amount_h1 d_0 r1) ++ ((tollwayref24_Amount_h2) ++ ((tollwayref24_Amount_h3) ++ ((tollwayref24_Amount_h4) ++ ((.br true) :: (cs 3 [.op none .w, .op none .w, .op none .c])))))) [] (ps := ([((.agg (Tapi_Discount.enc d_0) : AV) = .agg (Tapi_Discount.enc d_0)), (Ret Try.prog G0 40 [.agg (Tapi_Discount.enc d_0)] (.int .i64 r1) [])] ++ ([((!(r1 == (0 : Int))) = false)] ++ ([((decide (cents_1 < (0 : Int))) = false)] ++ ([((decide (cents_1 > (1125899906842624 : Int))) = false)] ++ [((d_0.Kind == (1 : Int)) = true), (IntKind.min .i64 ≤ (cents_1 * d_0.Amount) ∧ (cents_1 * d_0.Amount) ≤ IntKind.max .i64), (1000 ≠ (0 : Int)), (IntKind.min .i64 ≤ (Int.tdiv (cents_1 * d_0.Amount) 1000) ∧ (Int.tdiv (cents_1 * d_0.Amount) 1000) ≤ IntKind.max .i64)]))))) (by kernel_rfl) (by kernel_rfl) (allOk_append.2 ⟨⟨rfl, ok1 (tollwayref24_Check_ret d_0 r1 h2)⟩, (allOk_append.2 ⟨(ok1 (not_f (beq_t c3))), (allOk_append.2 ⟨(ok1 (decide_eq_false c4)), (allOk_append.2 ⟨(ok1 (decide_eq_false c5)), ⟨(beq_t c6), h7, (by decide), ok1 h8⟩⟩)⟩)⟩)⟩)
theorem tollwayref24_Amount_3 (d_0 : Tapi_Discount) (cents_1 : Int) (r1 : Int) (h2 : tollwayref24_Check d_0 = some r1) (c3 : r1 = (0 : Int)) (c4 : ¬ (cents_1 < (0 : Int))) (c5 : ¬ (cents_1 > (1125899906842624 : Int))) (c6 : ¬ (d_0.Kind = (1 : Int))) (c9 : d_0.Kind = (2 : Int)) (c10 : d_0.Amount < cents_1) : Ret Try.prog G0 30 [.agg (Tapi_Discount.enc d_0), .int .i64 cents_1] (.int .i64 d_0.Amount) [] :=
  Ret.of_view 400 ((tollwayref24_Amount_h1 d_0 r1) ++ ((tollwayref24_Amount_h2) ++ ((tollwayref24_Amount_h3) ++ ((tollwayref24_Amount_h4) ++ ((tollwayref24_Amount_h5) ++ ((tollwayref24_Amount_h6) ++ ((.br true) :: (cs 3 [])))))))) [] (ps := ([((.agg (Tapi_Discount.enc d_0) : AV) = .agg (Tapi_Discount.enc d_0)), (Ret Try.prog G0 40 [.agg (Tapi_Discount.enc d_0)] (.int .i64 r1) [])] ++ ([((!(r1 == (0 : Int))) = false)] ++ ([((decide (cents_1 < (0 : Int))) = false)] ++ ([((decide (cents_1 > (1125899906842624 : Int))) = false)] ++ ([((d_0.Kind == (1 : Int)) = false)] ++ ([((d_0.Kind == (2 : Int)) = true)] ++ [((decide (d_0.Amount < cents_1)) = true)]))))))) (by kernel_rfl) (by kernel_rfl) (allOk_append.2 ⟨⟨rfl, ok1 (tollwayref24_Check_ret d_0 r1 h2)⟩, (allOk_append.2 ⟨(ok1 (not_f (beq_t c3))), (allOk_append.2 ⟨(ok1 (decide_eq_false c4)), (allOk_append.2 ⟨(ok1 (decide_eq_false c5)), (allOk_append.2 ⟨(ok1 (beq_f c6)), (allOk_append.2 ⟨(ok1 (beq_t c9)), (ok1 (decide_eq_true c10))⟩)⟩)⟩)⟩)⟩)⟩)
theorem tollwayref24_Amount_4 (d_0 : Tapi_Discount) (cents_1 : Int) (r1 : Int) (h2 : tollwayref24_Check d_0 = some r1) (c3 : r1 = (0 : Int)) (c4 : ¬ (cents_1 < (0 : Int))) (c5 : ¬ (cents_1 > (1125899906842624 : Int))) (c6 : ¬ (d_0.Kind = (1 : Int))) (c9 : d_0.Kind = (2 : Int)) (c10 : ¬ (d_0.Amount < cents_1)) : Ret Try.prog G0 30 [.agg (Tapi_Discount.enc d_0), .int .i64 cents_1] (.int .i64 cents_1) [] :=
  Ret.of_view 400 ((tollwayref24_Amount_h1 d_0 r1) ++ ((tollwayref24_Amount_h2) ++ ((tollwayref24_Amount_h3) ++ ((tollwayref24_Amount_h4) ++ ((tollwayref24_Amount_h5) ++ ((tollwayref24_Amount_h6) ++ ((.br false) :: (cs 2 [])))))))) [] (ps := ([((.agg (Tapi_Discount.enc d_0) : AV) = .agg (Tapi_Discount.enc d_0)), (Ret Try.prog G0 40 [.agg (Tapi_Discount.enc d_0)] (.int .i64 r1) [])] ++ ([((!(r1 == (0 : Int))) = false)] ++ ([((decide (cents_1 < (0 : Int))) = false)] ++ ([((decide (cents_1 > (1125899906842624 : Int))) = false)] ++ ([((d_0.Kind == (1 : Int)) = false)] ++ ([((d_0.Kind == (2 : Int)) = true)] ++ [((decide (d_0.Amount < cents_1)) = false)]))))))) (by kernel_rfl) (by kernel_rfl) (allOk_append.2 ⟨⟨rfl, ok1 (tollwayref24_Check_ret d_0 r1 h2)⟩, (allOk_append.2 ⟨(ok1 (not_f (beq_t c3))), (allOk_append.2 ⟨(ok1 (decide_eq_false c4)), (allOk_append.2 ⟨(ok1 (decide_eq_false c5)), (allOk_append.2 ⟨(ok1 (beq_f c6)), (allOk_append.2 ⟨(ok1 (beq_t c9)), (ok1 (decide_eq_false c10))⟩)⟩)⟩)⟩)⟩)⟩)
theorem tollwayref24_Amount_5 (d_0 : Tapi_Discount) (cents_1 : Int) (r1 : Int) (h2 : tollwayref24_Check d_0 = some r1) (c3 : r1 = (0 : Int)) (c4 : ¬ (cents_1 < (0 : Int))) (c5 : ¬ (cents_1 > (1125899906842624 : Int))) (c6 : ¬ (d_0.Kind = (1 : Int))) (c9 : ¬ (d_0.Kind = (2 : Int))) : Ret Try.prog G0 30 [.agg (Tapi_Discount.enc d_0), .int .i64 cents_1] (.int .i64 cents_1) [] :=
  Ret.of_view 400 ((tollwayref24_Amount_h1 d_0 r1) ++ ((tollwayref24_Amount_h2) ++ ((tollwayref24_Amount_h3) ++ ((tollwayref24_Amount_h4) ++ ((tollwayref24_Amount_h5) ++ ((.op (some false) .c) :: (cs 4 ((.br false) :: (cs 2 []))))))))) [] (ps := ([((.agg (Tapi_Discount.enc d_0) : AV) = .agg (Tapi_Discount.enc d_0)), (Ret Try.prog G0 40 [.agg (Tapi_Discount.enc d_0)] (.int .i64 r1) [])] ++ ([((!(r1 == (0 : Int))) = false)] ++ ([((decide (cents_1 < (0 : Int))) = false)] ++ ([((decide (cents_1 > (1125899906842624 : Int))) = false)] ++ ([((d_0.Kind == (1 : Int)) = false)] ++ [((d_0.Kind == (2 : Int)) = false), (false = false)])))))) (by kernel_rfl) (by kernel_rfl) (allOk_append.2 ⟨⟨rfl, ok1 (tollwayref24_Check_ret d_0 r1 h2)⟩, (allOk_append.2 ⟨(ok1 (not_f (beq_t c3))), (allOk_append.2 ⟨(ok1 (decide_eq_false c4)), (allOk_append.2 ⟨(ok1 (decide_eq_false c5)), (allOk_append.2 ⟨(ok1 (beq_f c6)), ⟨(beq_f c9), ok1 rfl⟩⟩)⟩)⟩)⟩)⟩)
theorem tollwayref24_Amount_6 (d_0 : Tapi_Discount) (cents_1 : Int) (r1 : Int) (h2 : tollwayref24_Check d_0 = some r1) (c3 : ¬ (r1 = (0 : Int))) : Ret Try.prog G0 30 [.agg (Tapi_Discount.enc d_0), .int .i64 cents_1] (.int .i64 0) [] :=
  Ret.of_view 400 ((tollwayref24_Amount_h1 d_0 r1) ++ ((.op (some true) .c) :: (cs 6 [.br true, .op none .c]))) [] (ps := ([((.agg (Tapi_Discount.enc d_0) : AV) = .agg (Tapi_Discount.enc d_0)), (Ret Try.prog G0 40 [.agg (Tapi_Discount.enc d_0)] (.int .i64 r1) [])] ++ [((!(r1 == (0 : Int))) = true), (true = true)])) (by kernel_rfl) (by kernel_rfl) (allOk_append.2 ⟨⟨rfl, ok1 (tollwayref24_Check_ret d_0 r1 h2)⟩, ⟨(not_t (beq_f c3)), ok1 rfl⟩⟩)
theorem tollwayref24_Amount_ret (d_0 : Tapi_Discount) (cents_1 : Int) (r : Int) (h : tollwayref24_Amount d_0 cents_1 = some r) : Ret Try.prog G0 30 [.agg (Tapi_Discount.enc d_0), .int .i64 cents_1] (.int .i64 r) [] := by
  unfold tollwayref24_Amount at h
  obtain ⟨r1, h2, h⟩ := bind_some h
  rcases ite_some h with ⟨c3, h⟩ | ⟨c3, h⟩
  · rcases ite_some h with ⟨c4, h⟩ | ⟨c4, h⟩
    · simp only [Option.some.injEq] at h
      subst h
      exact tollwayref24_Amount_0 d_0 cents_1 r1 h2 c3 c4
    · rcases ite_some h with ⟨c5, h⟩ | ⟨c5, h⟩
      · simp only [Option.some.injEq] at h
        subst h
        exact tollwayref24_Amount_1 d_0 cents_1 r1 h2 c3 c4 c5
      · rcases ite_some h with ⟨c6, h⟩ | ⟨c6, h⟩
        · obtain ⟨h7, h⟩ := guard_some h
          obtain ⟨h8, h⟩ := guard_some h
          simp only [Option.some.injEq] at h
          subst h
          exact tollwayref24_Amount_2 d_0 cents_1 r1 h2 c3 c4 c5 c6 h7 h8
        · rcases ite_some h with ⟨c9, h⟩ | ⟨c9, h⟩
          · rcases ite_some h with ⟨c10, h⟩ | ⟨c10, h⟩
            · simp only [Option.some.injEq] at h
              subst h
              exact tollwayref24_Amount_3 d_0 cents_1 r1 h2 c3 c4 c5 c6 c9 c10
            · simp only [Option.some.injEq] at h
              subst h
              exact tollwayref24_Amount_4 d_0 cents_1 r1 h2 c3 c4 c5 c6 c9 c10
          · simp only [Option.some.injEq] at h
            subst h
            exact tollwayref24_Amount_5 d_0 cents_1 r1 h2 c3 c4 c5 c6 c9
  · simp only [Option.some.injEq] at h
    subst h
    exact tollwayref24_Amount_6 d_0 cents_1 r1 h2 c3
end Go.Proofs.Ytabjlmlfmafllaa.Av
