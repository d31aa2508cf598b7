import Derived.Test.YtalobodhbbkgdabDoorAvX
import Derived.Test.YtalobodhbbkgdabDoorProg
import Derived.Tactics
import Derived.Test.YtalobodhbbkgdabDoorR3
set_option linter.unusedVariables false
set_option linter.unusedSimpArgs false
set_option maxHeartbeats 4000000
namespace Go.Proofs.YtalobodhbbkgdabDoor.Av
open Go Go.Proofs
noncomputable def tollwayref01_plain (c_0 : Int) : Option Bool :=
  if c_0 ≥ (33 : Int) then
    if c_0 ≤ (126 : Int) then
      some (!(c_0 == (37 : Int)))
    else
      some false
  else
    some false
theorem tollwayref01_plain_0 (c_0 : Int) (c1 : c_0 ≥ (33 : Int)) (c2 : c_0 ≤ (126 : Int)) : Ret Tryd.prog GT 66 [.int .u8 c_0] (.bool (!(c_0 == (37 : Int)))) [] :=
  Ret.of_view 400 (cs 2 ((.op none .a) :: (.op none .c) :: (.op (some true) .c) :: (.op none .a) :: (cs 2 ((.op (some true) .c) :: (.op none .a) :: (cs 2 []))))) [] (ps := [((decide (c_0 ≥ (33 : Int))) = true), ((decide (c_0 ≤ (126 : Int))) = true)]) (by kernel_rfl) (by kernel_rfl) ⟨(decide_eq_true c1), ok1 (decide_eq_true c2)⟩
theorem tollwayref01_plain_1 (c_0 : Int) (c1 : c_0 ≥ (33 : Int)) (c2 : ¬ (c_0 ≤ (126 : Int))) : Ret Tryd.prog GT 66 [.int .u8 c_0] (.bool false) [] :=
  Ret.of_view 400 (cs 2 ((.op none .a) :: (.op none .c) :: (.op (some true) .c) :: (.op none .a) :: (cs 2 ((.op (some false) .c) :: (cs 3 []))))) [] (ps := [((decide (c_0 ≥ (33 : Int))) = true), ((decide (c_0 ≤ (126 : Int))) = false)]) (by kernel_rfl) (by kernel_rfl) ⟨(decide_eq_true c1), ok1 (decide_eq_false c2)⟩
theorem tollwayref01_plain_2 (c_0 : Int) (c1 : ¬ (c_0 ≥ (33 : Int))) : Ret Tryd.prog GT 66 [.int .u8 c_0] (.bool false) [] :=
  Ret.of_view 400 (cs 2 ((.op none .a) :: (.op none .c) :: (.op (some false) .c) :: (cs 7 []))) [] (ps := [((decide (c_0 ≥ (33 : Int))) = false)]) (by kernel_rfl) (by kernel_rfl) (ok1 (decide_eq_false c1))
theorem tollwayref01_plain_ret (c_0 : Int) (r : Bool) (h : tollwayref01_plain c_0 = some r) : Ret Tryd.prog GT 66 [.int .u8 c_0] (.bool r) [] := by
  unfold tollwayref01_plain at h
  rcases ite_some h with ⟨c1, h⟩ | ⟨c1, h⟩
  · rcases ite_some h with ⟨c2, h⟩ | ⟨c2, h⟩
    · simp only [Option.some.injEq] at h
      subst h
      exact tollwayref01_plain_0 c_0 c1 c2
    · simp only [Option.some.injEq] at h
      subst h
      exact tollwayref01_plain_1 c_0 c1 c2
  · simp only [Option.some.injEq] at h
    subst h
    exact tollwayref01_plain_2 c_0 c1
noncomputable def tollwayref01_Escape_L2_step (s_0 : (List UInt8)) : ((List UInt8) × Nat) → Option (((List UInt8) × Nat) ⊕ (List UInt8))
  | (v3, k4) =>
    if (↑k4 : Int) < (↑s_0.length : Int) then
      (s_0[k4]?).bind fun x36 =>
      (tollwayref01_plain (x36.toNat : Int)).bind fun r38 =>
      if r38 = true then
        if InR .i64 ((↑k4 : Int) + 1) then
          if (0 : Int) ≤ ((↑k4 : Int) + 1) then
            if k4 ≤ (Int.toNat ((↑k4 : Int) + 1)) then
              if (Int.toNat ((↑k4 : Int) + 1)) ≤ s_0.length then
                if v3.length + (List.drop k4 (List.take (Int.toNat ((↑k4 : Int) + 1)) s_0)).length ≤ 9223372036854775807 then
                  some (Sum.inl (v3 ++ (List.drop k4 (List.take (Int.toNat ((↑k4 : Int) + 1)) s_0)), (k4 + 1)))
                else none
              else none
            else none
          else none
        else none
      else
        if InR .u8 (Int.tdiv (x36.toNat : Int) 16) then
          if InR .i64 (Int.tdiv (x36.toNat : Int) 16) then
            if InR .i64 (Int.tmod (x36.toNat : Int) 16) then
              if v3.length + ([37] : List UInt8).length ≤ 9223372036854775807 then
                if InR .i64 ((Int.tdiv (x36.toNat : Int) 16) + 1) then
                  if (0 : Int) ≤ (Int.tdiv (x36.toNat : Int) 16) then
                    if (0 : Int) ≤ ((Int.tdiv (x36.toNat : Int) 16) + 1) then
                      if (Int.toNat (Int.tdiv (x36.toNat : Int) 16)) ≤ (Int.toNat ((Int.tdiv (x36.toNat : Int) 16) + 1)) then
                        if (Int.toNat ((Int.tdiv (x36.toNat : Int) 16) + 1)) ≤ 16 then
                          (some ((List.drop (Int.toNat (Int.tdiv (x36.toNat : Int) 16)) (List.take (Int.toNat ((Int.tdiv (x36.toNat : Int) 16) + 1)) ([48, 49, 50, 51, 52, 53, 54, 55, 56, 57, 65, 66, 67, 68, 69, 70] : List UInt8))))).bind fun s55 =>
                          if (v3 ++ ([37] : List UInt8)).length + s55.length ≤ 9223372036854775807 then
                            if InR .i64 ((Int.tmod (x36.toNat : Int) 16) + 1) then
                              if (0 : Int) ≤ (Int.tmod (x36.toNat : Int) 16) then
                                if (0 : Int) ≤ ((Int.tmod (x36.toNat : Int) 16) + 1) then
                                  if (Int.toNat (Int.tmod (x36.toNat : Int) 16)) ≤ (Int.toNat ((Int.tmod (x36.toNat : Int) 16) + 1)) then
                                    if (Int.toNat ((Int.tmod (x36.toNat : Int) 16) + 1)) ≤ 16 then
                                      (some ((List.drop (Int.toNat (Int.tmod (x36.toNat : Int) 16)) (List.take (Int.toNat ((Int.tmod (x36.toNat : Int) 16) + 1)) ([48, 49, 50, 51, 52, 53, 54, 55, 56, 57, 65, 66, 67, 68, 69, 70] : List UInt8))))).bind fun s63 =>
                                      if ((v3 ++ ([37] : List UInt8)) ++ s55).length + s63.length ≤ 9223372036854775807 then
                                        if InR .i64 ((↑k4 : Int) + 1) then
                                          some (Sum.inl (((v3 ++ ([37] : List UInt8)) ++ s55) ++ s63, (k4 + 1)))
                                        else none
                                      else none
                                    else none
                                  else none
                                else none
                              else none
                            else none
                          else none
                        else none
                      else none
                    else none
                  else none
                else none
              else none
            else none
          else none
        else none
    else
      some (Sum.inr v3)
def tollwayref01_Escape_L2_H (s_0 : (List UInt8)) : ((List UInt8) × Nat) → St := fun (s : ((List UInt8) × Nat)) => S 49 [(0, .str s_0), (3, .str s.1), (4, .int .i64 (↑s.2 : Int))] []
theorem tollwayref01_Escape_L2_0 (s_0 : (List UInt8)) (v3 : (List UInt8)) (k4 : Nat) (c35 : (↑k4 : Int) < (↑s_0.length : Int)) (x36 : UInt8) (h37 : s_0[k4]? = some x36) (r38 : Bool) (h39 : tollwayref01_plain (x36.toNat : Int) = some r38) (c40 : r38 = true) (h41 : InR .i64 ((↑k4 : Int) + 1)) (h42 : (0 : Int) ≤ ((↑k4 : Int) + 1)) (h43 : k4 ≤ (Int.toNat ((↑k4 : Int) + 1))) (h44 : (Int.toNat ((↑k4 : Int) + 1)) ≤ s_0.length) (h45 : v3.length + (List.drop k4 (List.take (Int.toNat ((↑k4 : Int) + 1)) s_0)).length ≤ 9223372036854775807) : Does Tryd.prog GT 0 (bodyAt Tryd.prog 47 [1, 1, 1, 0, 1, 0, 0]) (tollwayref01_Escape_L2_H s_0 (v3, k4)) .normal (S 49 [(0, .str s_0), (3, .str (v3 ++ (List.drop k4 (List.take (Int.toNat ((↑k4 : Int) + 1)) s_0)))), (4, .int .i64 ((↑k4 : Int) + 1))] []) :=
  Does.of_viewM 0 400 (cs 3 ((.op none .a) :: (.br true) :: (cs 2 ((.op none (.i k4)) :: (.tr (.eqt (.t 17) (.int .u8 (x36.toNat : Int)))) :: (.ret none [.int .u8 (x36.toNat : Int)] (.bool r38) []) :: (.br true) :: (cs 4 ((.op none .w) :: (.op none (.s k4 (Int.toNat ((↑k4 : Int) + 1)))) :: (.op none .a) :: (cs 2 [.op none .w, .op none .c]))))))) [] (ps := [((decide ((↑k4 : Int) < (↑s_0.length : Int))) = true), ((↑k4 : Int) = ((k4 : Nat) : Int) ∧ k4 < s_0.length), ((.int .u8 ((List.getD s_0 k4 0).toNat : Int) : AV) = .int .u8 (x36.toNat : Int)), ((.int .u8 (x36.toNat : Int) : AV) = .int .u8 (x36.toNat : Int)), (Ret Tryd.prog GT 66 [.int .u8 (x36.toNat : Int)] (.bool r38) []), (r38 = true), (IntKind.min .i64 ≤ ((↑k4 : Int) + 1) ∧ ((↑k4 : Int) + 1) ≤ IntKind.max .i64), (((↑k4 : Int) + 1) = (((Int.toNat ((↑k4 : Int) + 1)) : Nat) : Int)), ((↑k4 : Int) = ((k4 : Nat) : Int)), (k4 ≤ (Int.toNat ((↑k4 : Int) + 1)) ∧ (Int.toNat ((↑k4 : Int) + 1)) ≤ s_0.length), (v3.length + (List.drop k4 (List.take (Int.toNat ((↑k4 : Int) + 1)) s_0)).length ≤ 9223372036854775807), (IntKind.min .i64 ≤ ((↑k4 : Int) + 1) ∧ ((↑k4 : Int) + 1) ≤ IntKind.max .i64)]) (by kernel_rfl) (by kernel_rfl) ⟨(decide_eq_true c35), ⟨rfl, get_lt h37⟩, (getD_u8 h37), rfl, (tollwayref01_plain_ret (x36.toNat : Int) r38 h39), c40, h41, (Int.toNat_of_nonneg h42).symm, rfl, ⟨h43, h44⟩, h45, ok1 h41⟩
theorem tollwayref01_Escape_L2_1 (s_0 : (List UInt8)) (v3 : (List UInt8)) (k4 : Nat) (c35 : (↑k4 : Int) < (↑s_0.length : Int)) (x36 : UInt8) (h37 : s_0[k4]? = some x36) (r38 : Bool) (h39 : tollwayref01_plain (x36.toNat : Int) = some r38) (c40 : ¬ (r38 = true)) (h46 : InR .u8 (Int.tdiv (x36.toNat : Int) 16)) (h47 : InR .i64 (Int.tdiv (x36.toNat : Int) 16)) (h48 : InR .i64 (Int.tmod (x36.toNat : Int) 16)) (h49 : v3.length + ([37] : List UInt8).length ≤ 9223372036854775807) (h50 : InR .i64 ((Int.tdiv (x36.toNat : Int) 16) + 1)) (h51 : (0 : Int) ≤ (Int.tdiv (x36.toNat : Int) 16)) (h52 : (0 : Int) ≤ ((Int.tdiv (x36.toNat : Int) 16) + 1)) (h53 : (Int.toNat (Int.tdiv (x36.toNat : Int) 16)) ≤ (Int.toNat ((Int.tdiv (x36.toNat : Int) 16) + 1))) (h54 : (Int.toNat ((Int.tdiv (x36.toNat : Int) 16) + 1)) ≤ 16) (s55 : (List UInt8)) (h56 : some ((List.drop (Int.toNat (Int.tdiv (x36.toNat : Int) 16)) (List.take (Int.toNat ((Int.tdiv (x36.toNat : Int) 16) + 1)) ([48, 49, 50, 51, 52, 53, 54, 55, 56, 57, 65, 66, 67, 68, 69, 70] : List UInt8)))) = some s55) (h57 : (v3 ++ ([37] : List UInt8)).length + s55.length ≤ 9223372036854775807) (h58 : InR .i64 ((Int.tmod (x36.toNat : Int) 16) + 1)) (h59 : (0 : Int) ≤ (Int.tmod (x36.toNat : Int) 16)) (h60 : (0 : Int) ≤ ((Int.tmod (x36.toNat : Int) 16) + 1)) (h61 : (Int.toNat (Int.tmod (x36.toNat : Int) 16)) ≤ (Int.toNat ((Int.tmod (x36.toNat : Int) 16) + 1))) (h62 : (Int.toNat ((Int.tmod (x36.toNat : Int) 16) + 1)) ≤ 16) (s63 : (List UInt8)) (h64 : some ((List.drop (Int.toNat (Int.tmod (x36.toNat : Int) 16)) (List.take (Int.toNat ((Int.tmod (x36.toNat : Int) 16) + 1)) ([48, 49, 50, 51, 52, 53, 54, 55, 56, 57, 65, 66, 67, 68, 69, 70] : List UInt8)))) = some s63) (h65 : ((v3 ++ ([37] : List UInt8)) ++ s55).length + s63.length ≤ 9223372036854775807) (h66 : InR .i64 ((↑k4 : Int) + 1)) : Does Tryd.prog GT 0 (bodyAt Tryd.prog 47 [1, 1, 1, 0, 1, 0, 0]) (tollwayref01_Escape_L2_H s_0 (v3, k4)) .normal (S 49 [(0, .str s_0), (3, .str (((v3 ++ ([37] : List UInt8)) ++ s55) ++ s63)), (4, .int .i64 ((↑k4 : Int) + 1))] []) :=
  Does.of_viewM 0 400 (cs 3 ((.op none .a) :: (.br true) :: (cs 2 ((.op none (.i k4)) :: (.tr (.eqt (.t 17) (.int .u8 (x36.toNat : Int)))) :: (.ret none [.int .u8 (x36.toNat : Int)] (.bool r38) []) :: (.br false) :: (cs 2 ((.op none (.i k4)) :: (.trp (.eqt (.t 28) (.int .u8 (x36.toNat : Int)))) :: (.op none .w) :: (.op none .w) :: (cs 2 ((.op none (.i k4)) :: (.trp (.eqt (.t 33) (.int .u8 (x36.toNat : Int)))) :: (.op none .a) :: (.op none .w) :: (cs 3 ((.op none .a) :: (cs 2 ((.op none .w) :: (.op none (.s (Int.toNat (Int.tdiv (x36.toNat : Int) 16)) (Int.toNat ((Int.tdiv (x36.toNat : Int) 16) + 1)))) :: (.trp (.eqt (.t 41) (.str s55))) :: (.op none .a) :: (cs 2 ((.op none .w) :: (.op none (.s (Int.toNat (Int.tmod (x36.toNat : Int) 16)) (Int.toNat ((Int.tmod (x36.toNat : Int) 16) + 1)))) :: (.trp (.eqt (.t 46) (.str s63))) :: (.op none .a) :: (cs 2 [.op none .w, .op none .c]))))))))))))))) [] (ps := [((decide ((↑k4 : Int) < (↑s_0.length : Int))) = true), ((↑k4 : Int) = ((k4 : Nat) : Int) ∧ k4 < s_0.length), ((.int .u8 ((List.getD s_0 k4 0).toNat : Int) : AV) = .int .u8 (x36.toNat : Int)), ((.int .u8 (x36.toNat : Int) : AV) = .int .u8 (x36.toNat : Int)), (Ret Tryd.prog GT 66 [.int .u8 (x36.toNat : Int)] (.bool r38) []), (r38 = false), ((↑k4 : Int) = ((k4 : Nat) : Int) ∧ k4 < s_0.length), ((.int .u8 ((List.getD s_0 k4 0).toNat : Int) : AV) = .int .u8 (x36.toNat : Int)), (16 ≠ (0 : Int)), (IntKind.min .u8 ≤ (Int.tdiv (x36.toNat : Int) 16) ∧ (Int.tdiv (x36.toNat : Int) 16) ≤ IntKind.max .u8), (IntKind.min .i64 ≤ (Int.tdiv (x36.toNat : Int) 16) ∧ (Int.tdiv (x36.toNat : Int) 16) ≤ IntKind.max .i64), ((↑k4 : Int) = ((k4 : Nat) : Int) ∧ k4 < s_0.length), ((.int .u8 ((List.getD s_0 k4 0).toNat : Int) : AV) = .int .u8 (x36.toNat : Int)), (16 ≠ (0 : Int)), (IntKind.min .i64 ≤ (Int.tmod (x36.toNat : Int) 16) ∧ (Int.tmod (x36.toNat : Int) 16) ≤ IntKind.max .i64), (v3.length + ([37] : List UInt8).length ≤ 9223372036854775807), (IntKind.min .i64 ≤ ((Int.tdiv (x36.toNat : Int) 16) + 1) ∧ ((Int.tdiv (x36.toNat : Int) 16) + 1) ≤ IntKind.max .i64), (((Int.tdiv (x36.toNat : Int) 16) + 1) = (((Int.toNat ((Int.tdiv (x36.toNat : Int) 16) + 1)) : Nat) : Int)), ((Int.tdiv (x36.toNat : Int) 16) = (((Int.toNat (Int.tdiv (x36.toNat : Int) 16)) : Nat) : Int)), ((Int.toNat (Int.tdiv (x36.toNat : Int) 16)) ≤ (Int.toNat ((Int.tdiv (x36.toNat : Int) 16) + 1)) ∧ (Int.toNat ((Int.tdiv (x36.toNat : Int) 16) + 1)) ≤ 16), ((.str (List.drop (Int.toNat (Int.tdiv (x36.toNat : Int) 16)) (List.take (Int.toNat ((Int.tdiv (x36.toNat : Int) 16) + 1)) ([48, 49, 50, 51, 52, 53, 54, 55, 56, 57, 65, 66, 67, 68, 69, 70] : List UInt8))) : AV) = .str s55), ((v3 ++ ([37] : List UInt8)).length + s55.length ≤ 9223372036854775807), (IntKind.min .i64 ≤ ((Int.tmod (x36.toNat : Int) 16) + 1) ∧ ((Int.tmod (x36.toNat : Int) 16) + 1) ≤ IntKind.max .i64), (((Int.tmod (x36.toNat : Int) 16) + 1) = (((Int.toNat ((Int.tmod (x36.toNat : Int) 16) + 1)) : Nat) : Int)), ((Int.tmod (x36.toNat : Int) 16) = (((Int.toNat (Int.tmod (x36.toNat : Int) 16)) : Nat) : Int)), ((Int.toNat (Int.tmod (x36.toNat : Int) 16)) ≤ (Int.toNat ((Int.tmod (x36.toNat : Int) 16) + 1)) ∧ (Int.toNat ((Int.tmod (x36.toNat : Int) 16) + 1)) ≤ 16), ((.str (List.drop (Int.toNat (Int.tmod (x36.toNat : Int) 16)) (List.take (Int.toNat ((Int.tmod (x36.toNat : Int) 16) + 1)) ([48, 49, 50, 51, 52, 53, 54, 55, 56, 57, 65, 66, 67, 68, 69, 70] : List UInt8))) : AV) = .str s63), (((v3 ++ ([37] : List UInt8)) ++ s55).length + s63.length ≤ 9223372036854775807), (IntKind.min .i64 ≤ ((↑k4 : Int) + 1) ∧ ((↑k4 : Int) + 1) ≤ IntKind.max .i64)]) (by kernel_rfl) (by kernel_rfl) ⟨(decide_eq_true c35), ⟨rfl, get_lt h37⟩, (getD_u8 h37), rfl, (tollwayref01_plain_ret (x36.toNat : Int) r38 h39), (eq_false_of_ne_true c40), ⟨rfl, get_lt h37⟩, (getD_u8 h37), (by decide), h46, h47, ⟨rfl, get_lt h37⟩, (getD_u8 h37), (by decide), h48, h49, h50, (Int.toNat_of_nonneg h52).symm, (Int.toNat_of_nonneg h51).symm, ⟨h53, h54⟩, (congrArg _ (Option.some.inj h56)), h57, h58, (Int.toNat_of_nonneg h60).symm, (Int.toNat_of_nonneg h59).symm, ⟨h61, h62⟩, (congrArg _ (Option.some.inj h64)), h65, ok1 h66⟩
theorem tollwayref01_Escape_L2_2 (s_0 : (List UInt8)) (v3 : (List UInt8)) (k4 : Nat) (c35 : ¬ ((↑k4 : Int) < (↑s_0.length : Int))) : Does Tryd.prog GT 0 (bodyAt Tryd.prog 47 [1, 1, 1, 0, 1, 0, 0]) (tollwayref01_Escape_L2_H s_0 (v3, k4)) (.exit 0) (S 49 [(3, .str v3)] []) :=
  Does.of_viewM 0 400 (cs 3 [.op none .a, .br false]) [] (ps := [((decide ((↑k4 : Int) < (↑s_0.length : Int))) = false)]) (by kernel_rfl) (by kernel_rfl) (ok1 (decide_eq_false c35))
def tollwayref01_Escape_L2_X (s_0 : (List UInt8)) : (List UInt8) → AEx := fun o => (.exit 0)
def tollwayref01_Escape_L2_E (s_0 : (List UInt8)) : (List UInt8) → St := fun o => S 49 [(3, .str o)] []
theorem tollwayref01_Escape_L2_does (s_0 : (List UInt8)) {s : ((List UInt8) × Nat)} {r : (List UInt8)} (h : lp (tollwayref01_Escape_L2_step s_0) s = some r) : Does Tryd.prog GT 0 (.loop (bodyAt Tryd.prog 47 [1, 1, 1, 0, 1, 0, 0])) (tollwayref01_Escape_L2_H s_0 s) (tollwayref01_Escape_L2_X s_0 r) (tollwayref01_Escape_L2_E s_0 r) := by
  refine Does.lp (H := tollwayref01_Escape_L2_H s_0) (X := tollwayref01_Escape_L2_X s_0) (E := tollwayref01_Escape_L2_E s_0) (fun s s2 h => ?_) (fun s r h => ?_) h
  · obtain ⟨v3, k4⟩ := s
    unfold tollwayref01_Escape_L2_step at h
    try dsimp only at h
    rcases ite_some h with ⟨c35, h⟩ | ⟨c35, h⟩
    · obtain ⟨x36, h37, h⟩ := bind_some h
      obtain ⟨r38, h39, h⟩ := bind_some h
      rcases ite_some h with ⟨c40, h⟩ | ⟨c40, h⟩
      · obtain ⟨h41, h⟩ := guard_some h
        obtain ⟨h42, h⟩ := guard_some h
        obtain ⟨h43, h⟩ := guard_some h
        obtain ⟨h44, h⟩ := guard_some h
        obtain ⟨h45, h⟩ := guard_some h
        simp only [Option.some.injEq, Sum.inl.injEq] at h
        subst h
        have hq := tollwayref01_Escape_L2_0 s_0 v3 k4 c35 x36 h37 r38 h39 c40 h41 h42 h43 h44 h45
        first | exact hq | exact Eq.mp (by simp only [tollwayref01_Escape_L2_H, List.length_set] <;> rfl) hq
      · obtain ⟨h46, h⟩ := guard_some h
        obtain ⟨h47, h⟩ := guard_some h
        obtain ⟨h48, h⟩ := guard_some h
        obtain ⟨h49, h⟩ := guard_some h
        obtain ⟨h50, h⟩ := guard_some h
        obtain ⟨h51, h⟩ := guard_some h
        obtain ⟨h52, h⟩ := guard_some h
        obtain ⟨h53, h⟩ := guard_some h
        obtain ⟨h54, h⟩ := guard_some h
        obtain ⟨s55, h56, h⟩ := bind_some h
        obtain ⟨h57, h⟩ := guard_some h
        obtain ⟨h58, h⟩ := guard_some h
        obtain ⟨h59, h⟩ := guard_some h
        obtain ⟨h60, h⟩ := guard_some h
        obtain ⟨h61, h⟩ := guard_some h
        obtain ⟨h62, h⟩ := guard_some h
        obtain ⟨s63, h64, h⟩ := bind_some h
        obtain ⟨h65, h⟩ := guard_some h
        obtain ⟨h66, h⟩ := guard_some h
        simp only [Option.some.injEq, Sum.inl.injEq] at h
        subst h
        have hq := tollwayref01_Escape_L2_1 s_0 v3 k4 c35 x36 h37 r38 h39 c40 h46 h47 h48 h49 h50 h51 h52 h53 h54 s55 h56 h57 h58 h59 h60 h61 h62 s63 h64 h65 h66
        first | exact hq | exact Eq.mp (by simp only [tollwayref01_Escape_L2_H, List.length_set] <;> rfl) hq
    · simp at h
  · obtain ⟨v3, k4⟩ := s
    unfold tollwayref01_Escape_L2_step at h
    try dsimp only at h
    rcases ite_some h with ⟨c35, h⟩ | ⟨c35, h⟩
    · obtain ⟨x36, h37, h⟩ := bind_some h
      obtain ⟨r38, h39, h⟩ := bind_some h
      rcases ite_some h with ⟨c40, h⟩ | ⟨c40, h⟩
      · obtain ⟨h41, h⟩ := guard_some h
        obtain ⟨h42, h⟩ := guard_some h
        obtain ⟨h43, h⟩ := guard_some h
        obtain ⟨h44, h⟩ := guard_some h
        obtain ⟨h45, h⟩ := guard_some h
        simp at h
      · obtain ⟨h46, h⟩ := guard_some h
        obtain ⟨h47, h⟩ := guard_some h
        obtain ⟨h48, h⟩ := guard_some h
        obtain ⟨h49, h⟩ := guard_some h
        obtain ⟨h50, h⟩ := guard_some h
        obtain ⟨h51, h⟩ := guard_some h
        obtain ⟨h52, h⟩ := guard_some h
        obtain ⟨h53, h⟩ := guard_some h
        obtain ⟨h54, h⟩ := guard_some h
        obtain ⟨s55, h56, h⟩ := bind_some h
        obtain ⟨h57, h⟩ := guard_some h
        obtain ⟨h58, h⟩ := guard_some h
        obtain ⟨h59, h⟩ := guard_some h
        obtain ⟨h60, h⟩ := guard_some h
        obtain ⟨h61, h⟩ := guard_some h
        obtain ⟨h62, h⟩ := guard_some h
        obtain ⟨s63, h64, h⟩ := bind_some h
        obtain ⟨h65, h⟩ := guard_some h
        obtain ⟨h66, h⟩ := guard_some h
        simp at h
    · simp only [Option.some.injEq, Sum.inr.injEq] at h
      subst h
      exact ⟨tollwayref01_Escape_L2_2 s_0 v3 k4 c35, by intro q; cases q⟩
noncomputable def tollwayref01_Escape (s_0 : (List UInt8)) : Option (List UInt8) :=
  if s_0 = [] then
    some ([37] : List UInt8)
  else
    (lp (tollwayref01_Escape_L2_step s_0) (([] : List UInt8), (0 : Nat))).bind fun o2 =>
    some o2
theorem tollwayref01_Escape_0 (s_0 : (List UInt8)) (c1 : s_0 = []) : Ret Tryd.prog GT 47 [.str s_0] (.str [37]) [] :=
  Ret.of_view 400 (cs 2 [.op none .a, .br true, .op none .c]) [] (ps := [((s_0 == []) = true)]) (by kernel_rfl) (by kernel_rfl) (ok1 (beq_t c1))
theorem tollwayref01_Escape_1 (s_0 : (List UInt8)) (c1 : ¬ (s_0 = [])) (o2 : (List UInt8)) (hl2 : lp (tollwayref01_Escape_L2_step s_0) (([] : List UInt8), (0 : Nat)) = some o2) : Ret Tryd.prog GT 47 [.str s_0] (.str o2) [] :=
  Ret.of_view 400 (cs 2 ((.op none .a) :: (.br false) :: (cs 2 ((.fcut 0 (.exit 0) [(3, .str o2)] [] [] [(0, .str s_0), (3, .str ([] : List UInt8)), (4, .int .i64 (↑(0 : Nat) : Int))] []) :: (cs 2 []))))) [] (ps := [((s_0 == []) = false), ((.str s_0 : AV) = .str s_0), ((.str [] : AV) = .str ([] : List UInt8)), ((.int .i64 0 : AV) = .int .i64 (↑(0 : Nat) : Int)), (Does Tryd.prog GT 0 (.loop (bodyAt Tryd.prog 47 [1, 1, 1, 0, 1, 0, 0])) (S 49 [(0, .str s_0), (3, .str ([] : List UInt8)), (4, .int .i64 (↑(0 : Nat) : Int))] []) (.exit 0) (S 49 [(3, .str o2)] []))]) (by kernel_rfl) (by kernel_rfl) ⟨(beq_f c1), rfl, rfl, rfl, ok1 (tollwayref01_Escape_L2_does s_0 hl2)⟩
theorem tollwayref01_Escape_ret (s_0 : (List UInt8)) (r : (List UInt8)) (h : tollwayref01_Escape s_0 = some r) : Ret Tryd.prog GT 47 [.str s_0] (.str r) [] := by
  unfold tollwayref01_Escape at h
  rcases ite_some h with ⟨c1, h⟩ | ⟨c1, h⟩
  · simp only [Option.some.injEq] at h
    subst h
    exact tollwayref01_Escape_0 s_0 c1
  · obtain ⟨o2, hl2, h⟩ := bind_some h
    simp only [Option.some.injEq] at h
    subst h
    exact tollwayref01_Escape_1 s_0 c1 o2 hl2
noncomputable def tollwayref52_Why (why_0 : Int) : Option (List UInt8) :=
  if why_0 < (0 : Int) then
    some ([] : List UInt8)
  else
    if why_0 ≥ (19 : Int) then
      some ([] : List UInt8)
    else
      if (0 : Int) ≤ why_0 then
        if (Int.toNat why_0) < 19 then
          (([([] : List UInt8), ([117, 110, 107, 110, 111, 119, 110, 32, 100, 101, 118, 105, 99, 101] : List UInt8), ([105, 110, 118, 97, 108, 105, 100, 32, 116, 105, 109, 101] : List UInt8), ([109, 97, 108, 102, 111, 114, 109, 101, 100, 32, 114, 101, 97, 100, 105, 110, 103] : List UInt8), ([99, 111, 110, 102, 108, 105, 99, 116, 105, 110, 103, 32, 114, 101, 112, 111, 114, 116, 115] : List UInt8), ([111, 117, 116, 32, 111, 102, 32, 115, 101, 114, 118, 105, 99, 101] : List UInt8), ([117, 110, 97, 115, 115, 105, 103, 110, 101, 100, 32, 97, 120, 108, 101, 115] : List UInt8), ([108, 111, 119, 32, 99, 111, 110, 102, 105, 100, 101, 110, 99, 101] : List UInt8), ([116, 111, 111, 32, 109, 97, 110, 121, 32, 100, 101, 116, 101, 99, 116, 105, 111, 110, 115] : List UInt8), ([101, 108, 115, 101, 119, 104, 101, 114, 101, 32, 97, 116, 32, 116, 104, 97, 116, 32, 116, 105, 109, 101] : List UInt8), ([110, 111, 32, 101, 110, 116, 114, 121] : List UInt8), ([110, 111, 32, 101, 120, 105, 116] : List UInt8), ([99, 104, 101, 99, 107, 32, 112, 111, 105, 110, 116, 115, 32, 97, 108, 111, 110, 101] : List UInt8), ([110, 111, 32, 114, 97, 116, 101] : List UInt8), ([119, 97, 105, 118, 101, 100, 32, 102, 111, 114, 32, 97, 110, 32, 111, 117, 116, 97, 103, 101] : List UInt8), ([101, 120, 101, 109, 112, 116] : List UInt8), ([99, 97, 112, 112, 101, 100] : List UInt8), ([110, 111, 32, 97, 99, 99, 111, 117, 110, 116] : List UInt8), ([97, 108, 114, 101, 97, 100, 121, 32, 112, 97, 105, 100] : List UInt8)] : List (List UInt8))[(Int.toNat why_0)]?).bind fun x5 =>
          some x5
        else none
      else none
theorem tollwayref52_Why_0 (why_0 : Int) (c1 : why_0 < (0 : Int)) : Ret Tryd.prog GT 17 [.int .i64 why_0] (.str []) [] :=
  Ret.of_view 400 (cs 4 ((.op none .a) :: (.op none .c) :: (.op (some true) .c) :: (cs 4 [.br true, .op none .c]))) [] (ps := [((decide (why_0 < (0 : Int))) = true), (true = true)]) (by kernel_rfl) (by kernel_rfl) ⟨(decide_eq_true c1), ok1 rfl⟩
theorem tollwayref52_Why_1 (why_0 : Int) (c1 : ¬ (why_0 < (0 : Int))) (c2 : why_0 ≥ (19 : Int)) : Ret Tryd.prog GT 17 [.int .i64 why_0] (.str []) [] :=
  Ret.of_view 400 (cs 4 ((.op none .a) :: (.op none .c) :: (.op (some false) .c) :: (cs 2 [.op none .a, .op none .c, .br true, .op none .c]))) [] (ps := [((decide (why_0 < (0 : Int))) = false), ((decide (why_0 ≥ (19 : Int))) = true)]) (by kernel_rfl) (by kernel_rfl) ⟨(decide_eq_false c1), ok1 (decide_eq_true c2)⟩
theorem tollwayref52_Why_2 (why_0 : Int) (c1 : ¬ (why_0 < (0 : Int))) (c2 : ¬ (why_0 ≥ (19 : Int))) (h3 : (0 : Int) ≤ why_0) (h4 : (Int.toNat why_0) < 19) (x5 : (List UInt8)) (h6 : ([([] : List UInt8), ([117, 110, 107, 110, 111, 119, 110, 32, 100, 101, 118, 105, 99, 101] : List UInt8), ([105, 110, 118, 97, 108, 105, 100, 32, 116, 105, 109, 101] : List UInt8), ([109, 97, 108, 102, 111, 114, 109, 101, 100, 32, 114, 101, 97, 100, 105, 110, 103] : List UInt8), ([99, 111, 110, 102, 108, 105, 99, 116, 105, 110, 103, 32, 114, 101, 112, 111, 114, 116, 115] : List UInt8), ([111, 117, 116, 32, 111, 102, 32, 115, 101, 114, 118, 105, 99, 101] : List UInt8), ([117, 110, 97, 115, 115, 105, 103, 110, 101, 100, 32, 97, 120, 108, 101, 115] : List UInt8), ([108, 111, 119, 32, 99, 111, 110, 102, 105, 100, 101, 110, 99, 101] : List UInt8), ([116, 111, 111, 32, 109, 97, 110, 121, 32, 100, 101, 116, 101, 99, 116, 105, 111, 110, 115] : List UInt8), ([101, 108, 115, 101, 119, 104, 101, 114, 101, 32, 97, 116, 32, 116, 104, 97, 116, 32, 116, 105, 109, 101] : List UInt8), ([110, 111, 32, 101, 110, 116, 114, 121] : List UInt8), ([110, 111, 32, 101, 120, 105, 116] : List UInt8), ([99, 104, 101, 99, 107, 32, 112, 111, 105, 110, 116, 115, 32, 97, 108, 111, 110, 101] : List UInt8), ([110, 111, 32, 114, 97, 116, 101] : List UInt8), ([119, 97, 105, 118, 101, 100, 32, 102, 111, 114, 32, 97, 110, 32, 111, 117, 116, 97, 103, 101] : List UInt8), ([101, 120, 101, 109, 112, 116] : List UInt8), ([99, 97, 112, 112, 101, 100] : List UInt8), ([110, 111, 32, 97, 99, 99, 111, 117, 110, 116] : List UInt8), ([97, 108, 114, 101, 97, 100, 121, 32, 112, 97, 105, 100] : List UInt8)] : List (List UInt8))[(Int.toNat why_0)]? = some x5) : Ret Tryd.prog GT 17 [.int .i64 why_0] (.str x5) [] :=
  Ret.of_view 400 (cs 4 ((.op none .a) :: (.op none .c) :: (.op (some false) .c) :: (cs 2 ((.op none .a) :: (.op none .c) :: (.br false) :: (cs 2 [.tr (.eqc 0 (fl e_str ([([] : List UInt8), ([117, 110, 107, 110, 111, 119, 110, 32, 100, 101, 118, 105, 99, 101] : List UInt8), ([105, 110, 118, 97, 108, 105, 100, 32, 116, 105, 109, 101] : List UInt8), ([109, 97, 108, 102, 111, 114, 109, 101, 100, 32, 114, 101, 97, 100, 105, 110, 103] : List UInt8), ([99, 111, 110, 102, 108, 105, 99, 116, 105, 110, 103, 32, 114, 101, 112, 111, 114, 116, 115] : List UInt8), ([111, 117, 116, 32, 111, 102, 32, 115, 101, 114, 118, 105, 99, 101] : List UInt8), ([117, 110, 97, 115, 115, 105, 103, 110, 101, 100, 32, 97, 120, 108, 101, 115] : List UInt8), ([108, 111, 119, 32, 99, 111, 110, 102, 105, 100, 101, 110, 99, 101] : List UInt8), ([116, 111, 111, 32, 109, 97, 110, 121, 32, 100, 101, 116, 101, 99, 116, 105, 111, 110, 115] : List UInt8), ([101, 108, 115, 101, 119, 104, 101, 114, 101, 32, 97, 116, 32, 116, 104, 97, 116, 32, 116, 105, 109, 101] : List UInt8), ([110, 111, 32, 101, 110, 116, 114, 121] : List UInt8), ([110, 111, 32, 101, 120, 105, 116] : List UInt8), ([99, 104, 101, 99, 107, 32, 112, 111, 105, 110, 116, 115, 32, 97, 108, 111, 110, 101] : List UInt8), ([110, 111, 32, 114, 97, 116, 101] : List UInt8), ([119, 97, 105, 118, 101, 100, 32, 102, 111, 114, 32, 97, 110, 32, 111, 117, 116, 97, 103, 101] : List UInt8), ([101, 120, 101, 109, 112, 116] : List UInt8), ([99, 97, 112, 112, 101, 100] : List UInt8), ([110, 111, 32, 97, 99, 99, 111, 117, 110, 116] : List UInt8), ([97, 108, 114, 101, 97, 100, 121, 32, 112, 97, 105, 100] : List UInt8)] : List (List UInt8)))), .op none (.i (Int.toNat why_0)), .op none (.v [.str x5]), .op none .c]))))) [] (ps := [((decide (why_0 < (0 : Int))) = false), ((decide (why_0 ≥ (19 : Int))) = false), ([.str [], .str [117, 110, 107, 110, 111, 119, 110, 32, 100, 101, 118, 105, 99, 101], .str [105, 110, 118, 97, 108, 105, 100, 32, 116, 105, 109, 101], .str [109, 97, 108, 102, 111, 114, 109, 101, 100, 32, 114, 101, 97, 100, 105, 110, 103], .str [99, 111, 110, 102, 108, 105, 99, 116, 105, 110, 103, 32, 114, 101, 112, 111, 114, 116, 115], .str [111, 117, 116, 32, 111, 102, 32, 115, 101, 114, 118, 105, 99, 101], .str [117, 110, 97, 115, 115, 105, 103, 110, 101, 100, 32, 97, 120, 108, 101, 115], .str [108, 111, 119, 32, 99, 111, 110, 102, 105, 100, 101, 110, 99, 101], .str [116, 111, 111, 32, 109, 97, 110, 121, 32, 100, 101, 116, 101, 99, 116, 105, 111, 110, 115], .str [101, 108, 115, 101, 119, 104, 101, 114, 101, 32, 97, 116, 32, 116, 104, 97, 116, 32, 116, 105, 109, 101], .str [110, 111, 32, 101, 110, 116, 114, 121], .str [110, 111, 32, 101, 120, 105, 116], .str [99, 104, 101, 99, 107, 32, 112, 111, 105, 110, 116, 115, 32, 97, 108, 111, 110, 101], .str [110, 111, 32, 114, 97, 116, 101], .str [119, 97, 105, 118, 101, 100, 32, 102, 111, 114, 32, 97, 110, 32, 111, 117, 116, 97, 103, 101], .str [101, 120, 101, 109, 112, 116], .str [99, 97, 112, 112, 101, 100], .str [110, 111, 32, 97, 99, 99, 111, 117, 110, 116], .str [97, 108, 114, 101, 97, 100, 121, 32, 112, 97, 105, 100]] = (fl e_str ([([] : List UInt8), ([117, 110, 107, 110, 111, 119, 110, 32, 100, 101, 118, 105, 99, 101] : List UInt8), ([105, 110, 118, 97, 108, 105, 100, 32, 116, 105, 109, 101] : List UInt8), ([109, 97, 108, 102, 111, 114, 109, 101, 100, 32, 114, 101, 97, 100, 105, 110, 103] : List UInt8), ([99, 111, 110, 102, 108, 105, 99, 116, 105, 110, 103, 32, 114, 101, 112, 111, 114, 116, 115] : List UInt8), ([111, 117, 116, 32, 111, 102, 32, 115, 101, 114, 118, 105, 99, 101] : List UInt8), ([117, 110, 97, 115, 115, 105, 103, 110, 101, 100, 32, 97, 120, 108, 101, 115] : List UInt8), ([108, 111, 119, 32, 99, 111, 110, 102, 105, 100, 101, 110, 99, 101] : List UInt8), ([116, 111, 111, 32, 109, 97, 110, 121, 32, 100, 101, 116, 101, 99, 116, 105, 111, 110, 115] : List UInt8), ([101, 108, 115, 101, 119, 104, 101, 114, 101, 32, 97, 116, 32, 116, 104, 97, 116, 32, 116, 105, 109, 101] : List UInt8), ([110, 111, 32, 101, 110, 116, 114, 121] : List UInt8), ([110, 111, 32, 101, 120, 105, 116] : List UInt8), ([99, 104, 101, 99, 107, 32, 112, 111, 105, 110, 116, 115, 32, 97, 108, 111, 110, 101] : List UInt8), ([110, 111, 32, 114, 97, 116, 101] : List UInt8), ([119, 97, 105, 118, 101, 100, 32, 102, 111, 114, 32, 97, 110, 32, 111, 117, 116, 97, 103, 101] : List UInt8), ([101, 120, 101, 109, 112, 116] : List UInt8), ([99, 97, 112, 112, 101, 100] : List UInt8), ([110, 111, 32, 97, 99, 99, 111, 117, 110, 116] : List UInt8), ([97, 108, 114, 101, 97, 100, 121, 32, 112, 97, 105, 100] : List UInt8)] : List (List UInt8)))), (why_0 = (((Int.toNat why_0) : Nat) : Int) ∧ (Int.toNat why_0) < 19), (sub (fl e_str ([([] : List UInt8), ([117, 110, 107, 110, 111, 119, 110, 32, 100, 101, 118, 105, 99, 101] : List UInt8), ([105, 110, 118, 97, 108, 105, 100, 32, 116, 105, 109, 101] : List UInt8), ([109, 97, 108, 102, 111, 114, 109, 101, 100, 32, 114, 101, 97, 100, 105, 110, 103] : List UInt8), ([99, 111, 110, 102, 108, 105, 99, 116, 105, 110, 103, 32, 114, 101, 112, 111, 114, 116, 115] : List UInt8), ([111, 117, 116, 32, 111, 102, 32, 115, 101, 114, 118, 105, 99, 101] : List UInt8), ([117, 110, 97, 115, 115, 105, 103, 110, 101, 100, 32, 97, 120, 108, 101, 115] : List UInt8), ([108, 111, 119, 32, 99, 111, 110, 102, 105, 100, 101, 110, 99, 101] : List UInt8), ([116, 111, 111, 32, 109, 97, 110, 121, 32, 100, 101, 116, 101, 99, 116, 105, 111, 110, 115] : List UInt8), ([101, 108, 115, 101, 119, 104, 101, 114, 101, 32, 97, 116, 32, 116, 104, 97, 116, 32, 116, 105, 109, 101] : List UInt8), ([110, 111, 32, 101, 110, 116, 114, 121] : List UInt8), ([110, 111, 32, 101, 120, 105, 116] : List UInt8), ([99, 104, 101, 99, 107, 32, 112, 111, 105, 110, 116, 115, 32, 97, 108, 111, 110, 101] : List UInt8), ([110, 111, 32, 114, 97, 116, 101] : List UInt8), ([119, 97, 105, 118, 101, 100, 32, 102, 111, 114, 32, 97, 110, 32, 111, 117, 116, 97, 103, 101] : List UInt8), ([101, 120, 101, 109, 112, 116] : List UInt8), ([99, 97, 112, 112, 101, 100] : List UInt8), ([110, 111, 32, 97, 99, 99, 111, 117, 110, 116] : List UInt8), ([97, 108, 114, 101, 97, 100, 121, 32, 112, 97, 105, 100] : List UInt8)] : List (List UInt8))) (Int.toNat why_0) 1 = [.str x5])]) (by kernel_rfl) (by kernel_rfl) ⟨(decide_eq_false c1), (decide_eq_false c2), rfl, ⟨(Int.toNat_of_nonneg h3).symm, h4⟩, ok1 (fl_sub1 (f := e_str) (fun _ => rfl) h6 rfl)⟩
theorem tollwayref52_Why_ret (why_0 : Int) (r : (List UInt8)) (h : tollwayref52_Why why_0 = some r) : Ret Tryd.prog GT 17 [.int .i64 why_0] (.str r) [] := by
  unfold tollwayref52_Why at h
  rcases ite_some h with ⟨c1, h⟩ | ⟨c1, h⟩
  · simp only [Option.some.injEq] at h
    subst h
    exact tollwayref52_Why_0 why_0 c1
  · rcases ite_some h with ⟨c2, h⟩ | ⟨c2, h⟩
    · simp only [Option.some.injEq] at h
      subst h
      exact tollwayref52_Why_1 why_0 c1 c2
    · obtain ⟨h3, h⟩ := guard_some h
      obtain ⟨h4, h⟩ := guard_some h
      obtain ⟨x5, h6, h⟩ := bind_some h
      simp only [Option.some.injEq] at h
      subst h
      exact tollwayref52_Why_2 why_0 c1 c2 h3 h4 x5 h6
noncomputable def tollwayref52_Print_L1_step (l_0 : (List Tapi_Fact)) : ((List UInt8) × Nat) → Option (((List UInt8) × Nat) ⊕ (List UInt8))
  | (v3, k4) =>
    if (↑k4 : Int) < (↑l_0.length : Int) then
      (l_0[k4]?).bind fun x24 =>
      if v3.length + x24.Kind.length ≤ 9223372036854775807 then
        if (v3 ++ x24.Kind).length + ([32] : List UInt8).length ≤ 9223372036854775807 then
          (tollwayref01_Escape x24.Key).bind fun r28 =>
          if ((v3 ++ x24.Kind) ++ ([32] : List UInt8)).length + r28.length ≤ 9223372036854775807 then
            if x24.Why = (0 : Int) then
              if (((v3 ++ x24.Kind) ++ ([32] : List UInt8)) ++ r28).length + ([10] : List UInt8).length ≤ 9223372036854775807 then
                (some ((((v3 ++ x24.Kind) ++ ([32] : List UInt8)) ++ r28) ++ ([10] : List UInt8))).bind fun s33 =>
                if InR .i64 ((↑k4 : Int) + 1) then
                  some (Sum.inl (s33, (k4 + 1)))
                else none
              else none
            else
              if (((v3 ++ x24.Kind) ++ ([32] : List UInt8)) ++ r28).length + ([32] : List UInt8).length ≤ 9223372036854775807 then
                (some ((((v3 ++ x24.Kind) ++ ([32] : List UInt8)) ++ r28) ++ ([32] : List UInt8))).bind fun s37 =>
                (tollwayref52_Why x24.Why).bind fun r39 =>
                if s37.length + r39.length ≤ 9223372036854775807 then
                  if (s37 ++ r39).length + ([10] : List UInt8).length ≤ 9223372036854775807 then
                    if InR .i64 ((↑k4 : Int) + 1) then
                      some (Sum.inl ((s37 ++ r39) ++ ([10] : List UInt8), (k4 + 1)))
                    else none
                  else none
                else none
              else none
          else none
        else none
      else none
    else
      some (Sum.inr v3)
def tollwayref52_Print_L1_H (l_0 : (List Tapi_Fact)) : ((List UInt8) × Nat) → St := fun (s : ((List UInt8) × Nat)) => S 44 [(0, .lst (fl Tapi_Fact.enc l_0) l_0.length), (3, .str s.1), (4, .int .i64 (↑s.2 : Int))] []
theorem tollwayref52_Print_L1_0 (l_0 : (List Tapi_Fact)) (v3 : (List UInt8)) (k4 : Nat) (c23 : (↑k4 : Int) < (↑l_0.length : Int)) (x24 : Tapi_Fact) (h25 : l_0[k4]? = some x24) (h26 : v3.length + x24.Kind.length ≤ 9223372036854775807) (h27 : (v3 ++ x24.Kind).length + ([32] : List UInt8).length ≤ 9223372036854775807) (r28 : (List UInt8)) (h29 : tollwayref01_Escape x24.Key = some r28) (h30 : ((v3 ++ x24.Kind) ++ ([32] : List UInt8)).length + r28.length ≤ 9223372036854775807) (c31 : x24.Why = (0 : Int)) (h32 : (((v3 ++ x24.Kind) ++ ([32] : List UInt8)) ++ r28).length + ([10] : List UInt8).length ≤ 9223372036854775807) (s33 : (List UInt8)) (h34 : some ((((v3 ++ x24.Kind) ++ ([32] : List UInt8)) ++ r28) ++ ([10] : List UInt8)) = some s33) (h35 : InR .i64 ((↑k4 : Int) + 1)) : Does Tryd.prog GT 0 (bodyAt Tryd.prog 15 [1, 1, 0, 1, 0, 0]) (tollwayref52_Print_L1_H l_0 (v3, k4)) .normal (S 44 [(0, .lst (fl Tapi_Fact.enc l_0) l_0.length), (3, .str s33), (4, .int .i64 ((↑k4 : Int) + 1))] []) :=
  Does.of_viewM 0 400 (cs 3 ((.op none .a) :: (.br true) :: (cs 3 ((.op none (.i k4)) :: (.op none .c) :: (.op none (.v [.str x24.Kind])) :: (.op none .a) :: (.op none .a) :: (cs 2 ((.op none (.i k4)) :: (.op none .c) :: (.op none (.v [.str x24.Key])) :: (.ret none [.str x24.Key] (.str r28) []) :: (.op none .a) :: (cs 3 ((.op none (.i k4)) :: (.op none .c) :: (.op none (.v [.int .i64 x24.Why])) :: (.op none .a) :: (.br false) :: (.op none .c) :: (.op none .a) :: (.tr (.eqt (.t 42) (.str s33))) :: (cs 2 [.op none .w, .op none .c]))))))))) [] (ps := [((decide ((↑k4 : Int) < (↑l_0.length : Int))) = true), ((↑k4 : Int) = ((k4 : Nat) : Int) ∧ k4 < l_0.length), ((fl Tapi_Fact.enc l_0) ≠ []), (sub (fl Tapi_Fact.enc l_0) (k4 * 3) 1 = [.str x24.Kind]), (v3.length + x24.Kind.length ≤ 9223372036854775807), ((v3 ++ x24.Kind).length + ([32] : List UInt8).length ≤ 9223372036854775807), ((↑k4 : Int) = ((k4 : Nat) : Int) ∧ k4 < l_0.length), ((fl Tapi_Fact.enc l_0) ≠ []), (sub (fl Tapi_Fact.enc l_0) ((k4 * 3) + 1) 1 = [.str x24.Key]), ((.str x24.Key : AV) = .str x24.Key), (Ret Tryd.prog GT 47 [.str x24.Key] (.str r28) []), (((v3 ++ x24.Kind) ++ ([32] : List UInt8)).length + r28.length ≤ 9223372036854775807), ((↑k4 : Int) = ((k4 : Nat) : Int) ∧ k4 < l_0.length), ((fl Tapi_Fact.enc l_0) ≠ []), (sub (fl Tapi_Fact.enc l_0) ((k4 * 3) + 2) 1 = [.int .i64 x24.Why]), ((!(x24.Why == (0 : Int))) = false), ((((v3 ++ x24.Kind) ++ ([32] : List UInt8)) ++ r28).length + ([10] : List UInt8).length ≤ 9223372036854775807), ((.str ((((v3 ++ x24.Kind) ++ ([32] : List UInt8)) ++ r28) ++ ([10] : List UInt8)) : AV) = .str s33), (IntKind.min .i64 ≤ ((↑k4 : Int) + 1) ∧ ((↑k4 : Int) + 1) ≤ IntKind.max .i64)]) (by kernel_rfl) (by kernel_rfl) ⟨(decide_eq_true c23), ⟨rfl, get_lt h25⟩, (fl_ne (f := Tapi_Fact.enc) (z := 2) (fun _ => rfl) h25), (fl_sub (f := Tapi_Fact.enc) (z := 3) (j := k4) (a := 0) (n := 1) (fun _ => rfl) h25 (by decide) rfl), h26, h27, ⟨rfl, get_lt h25⟩, (fl_ne (f := Tapi_Fact.enc) (z := 2) (fun _ => rfl) h25), (fl_sub (f := Tapi_Fact.enc) (z := 3) (j := k4) (a := 1) (n := 1) (fun _ => rfl) h25 (by decide) rfl), rfl, (tollwayref01_Escape_ret x24.Key r28 h29), h30, ⟨rfl, get_lt h25⟩, (fl_ne (f := Tapi_Fact.enc) (z := 2) (fun _ => rfl) h25), (fl_sub (f := Tapi_Fact.enc) (z := 3) (j := k4) (a := 2) (n := 1) (fun _ => rfl) h25 (by decide) rfl), (not_f (beq_t c31)), h32, (congrArg _ (Option.some.inj h34)), ok1 h35⟩
theorem tollwayref52_Print_L1_1 (l_0 : (List Tapi_Fact)) (v3 : (List UInt8)) (k4 : Nat) (c23 : (↑k4 : Int) < (↑l_0.length : Int)) (x24 : Tapi_Fact) (h25 : l_0[k4]? = some x24) (h26 : v3.length + x24.Kind.length ≤ 9223372036854775807) (h27 : (v3 ++ x24.Kind).length + ([32] : List UInt8).length ≤ 9223372036854775807) (r28 : (List UInt8)) (h29 : tollwayref01_Escape x24.Key = some r28) (h30 : ((v3 ++ x24.Kind) ++ ([32] : List UInt8)).length + r28.length ≤ 9223372036854775807) (c31 : ¬ (x24.Why = (0 : Int))) (h36 : (((v3 ++ x24.Kind) ++ ([32] : List UInt8)) ++ r28).length + ([32] : List UInt8).length ≤ 9223372036854775807) (s37 : (List UInt8)) (h38 : some ((((v3 ++ x24.Kind) ++ ([32] : List UInt8)) ++ r28) ++ ([32] : List UInt8)) = some s37) (r39 : (List UInt8)) (h40 : tollwayref52_Why x24.Why = some r39) (h41 : s37.length + r39.length ≤ 9223372036854775807) (h42 : (s37 ++ r39).length + ([10] : List UInt8).length ≤ 9223372036854775807) (h43 : InR .i64 ((↑k4 : Int) + 1)) : Does Tryd.prog GT 0 (bodyAt Tryd.prog 15 [1, 1, 0, 1, 0, 0]) (tollwayref52_Print_L1_H l_0 (v3, k4)) .normal (S 44 [(0, .lst (fl Tapi_Fact.enc l_0) l_0.length), (3, .str ((s37 ++ r39) ++ ([10] : List UInt8))), (4, .int .i64 ((↑k4 : Int) + 1))] []) :=
  Does.of_viewM 0 400 (cs 3 ((.op none .a) :: (.br true) :: (cs 3 ((.op none (.i k4)) :: (.op none .c) :: (.op none (.v [.str x24.Kind])) :: (.op none .a) :: (.op none .a) :: (cs 2 ((.op none (.i k4)) :: (.op none .c) :: (.op none (.v [.str x24.Key])) :: (.ret none [.str x24.Key] (.str r28) []) :: (.op none .a) :: (cs 3 ((.op none (.i k4)) :: (.op none .c) :: (.op none (.v [.int .i64 x24.Why])) :: (.op none .a) :: (.br true) :: (.op none .c) :: (.op none .a) :: (.tr (.eqt (.t 33) (.str s37))) :: (cs 2 ((.op none (.i k4)) :: (.op none .c) :: (.op none (.v [.int .i64 x24.Why])) :: (.ret none [.int .i64 x24.Why] (.str r39) []) :: (.op none .a) :: (cs 2 ((.op none .a) :: (cs 2 [.op none .w, .op none .c]))))))))))))) [] (ps := [((decide ((↑k4 : Int) < (↑l_0.length : Int))) = true), ((↑k4 : Int) = ((k4 : Nat) : Int) ∧ k4 < l_0.length), ((fl Tapi_Fact.enc l_0) ≠ []), (sub (fl Tapi_Fact.enc l_0) (k4 * 3) 1 = [.str x24.Kind]), (v3.length + x24.Kind.length ≤ 9223372036854775807), ((v3 ++ x24.Kind).length + ([32] : List UInt8).length ≤ 9223372036854775807), ((↑k4 : Int) = ((k4 : Nat) : Int) ∧ k4 < l_0.length), ((fl Tapi_Fact.enc l_0) ≠ []), (sub (fl Tapi_Fact.enc l_0) ((k4 * 3) + 1) 1 = [.str x24.Key]), ((.str x24.Key : AV) = .str x24.Key), (Ret Tryd.prog GT 47 [.str x24.Key] (.str r28) []), (((v3 ++ x24.Kind) ++ ([32] : List UInt8)).length + r28.length ≤ 9223372036854775807), ((↑k4 : Int) = ((k4 : Nat) : Int) ∧ k4 < l_0.length), ((fl Tapi_Fact.enc l_0) ≠ []), (sub (fl Tapi_Fact.enc l_0) ((k4 * 3) + 2) 1 = [.int .i64 x24.Why]), ((!(x24.Why == (0 : Int))) = true), ((((v3 ++ x24.Kind) ++ ([32] : List UInt8)) ++ r28).length + ([32] : List UInt8).length ≤ 9223372036854775807), ((.str ((((v3 ++ x24.Kind) ++ ([32] : List UInt8)) ++ r28) ++ ([32] : List UInt8)) : AV) = .str s37), ((↑k4 : Int) = ((k4 : Nat) : Int) ∧ k4 < l_0.length), ((fl Tapi_Fact.enc l_0) ≠ []), (sub (fl Tapi_Fact.enc l_0) ((k4 * 3) + 2) 1 = [.int .i64 x24.Why]), ((.int .i64 x24.Why : AV) = .int .i64 x24.Why), (Ret Tryd.prog GT 17 [.int .i64 x24.Why] (.str r39) []), (s37.length + r39.length ≤ 9223372036854775807), ((s37 ++ r39).length + ([10] : List UInt8).length ≤ 9223372036854775807), (IntKind.min .i64 ≤ ((↑k4 : Int) + 1) ∧ ((↑k4 : Int) + 1) ≤ IntKind.max .i64)]) (by kernel_rfl) (by kernel_rfl) ⟨(decide_eq_true c23), ⟨rfl, get_lt h25⟩, (fl_ne (f := Tapi_Fact.enc) (z := 2) (fun _ => rfl) h25), (fl_sub (f := Tapi_Fact.enc) (z := 3) (j := k4) (a := 0) (n := 1) (fun _ => rfl) h25 (by decide) rfl), h26, h27, ⟨rfl, get_lt h25⟩, (fl_ne (f := Tapi_Fact.enc) (z := 2) (fun _ => rfl) h25), (fl_sub (f := Tapi_Fact.enc) (z := 3) (j := k4) (a := 1) (n := 1) (fun _ => rfl) h25 (by decide) rfl), rfl, (tollwayref01_Escape_ret x24.Key r28 h29), h30, ⟨rfl, get_lt h25⟩, (fl_ne (f := Tapi_Fact.enc) (z := 2) (fun _ => rfl) h25), (fl_sub (f := Tapi_Fact.enc) (z := 3) (j := k4) (a := 2) (n := 1) (fun _ => rfl) h25 (by decide) rfl), (not_t (beq_f c31)), h36, (congrArg _ (Option.some.inj h38)), ⟨rfl, get_lt h25⟩, (fl_ne (f := Tapi_Fact.enc) (z := 2) (fun _ => rfl) h25), (fl_sub (f := Tapi_Fact.enc) (z := 3) (j := k4) (a := 2) (n := 1) (fun _ => rfl) h25 (by decide) rfl), rfl, (tollwayref52_Why_ret x24.Why r39 h40), h41, h42, ok1 h43⟩
theorem tollwayref52_Print_L1_2 (l_0 : (List Tapi_Fact)) (v3 : (List UInt8)) (k4 : Nat) (c23 : ¬ ((↑k4 : Int) < (↑l_0.length : Int))) : Does Tryd.prog GT 0 (bodyAt Tryd.prog 15 [1, 1, 0, 1, 0, 0]) (tollwayref52_Print_L1_H l_0 (v3, k4)) (.exit 0) (S 44 [(3, .str v3)] []) :=
  Does.of_viewM 0 400 (cs 3 [.op none .a, .br false]) [] (ps := [((decide ((↑k4 : Int) < (↑l_0.length : Int))) = false)]) (by kernel_rfl) (by kernel_rfl) (ok1 (decide_eq_false c23))
def tollwayref52_Print_L1_X (l_0 : (List Tapi_Fact)) : (List UInt8) → AEx := fun o => (.exit 0)
def tollwayref52_Print_L1_E (l_0 : (List Tapi_Fact)) : (List UInt8) → St := fun o => S 44 [(3, .str o)] []
theorem tollwayref52_Print_L1_does (l_0 : (List Tapi_Fact)) {s : ((List UInt8) × Nat)} {r : (List UInt8)} (h : lp (tollwayref52_Print_L1_step l_0) s = some r) : Does Tryd.prog GT 0 (.loop (bodyAt Tryd.prog 15 [1, 1, 0, 1, 0, 0])) (tollwayref52_Print_L1_H l_0 s) (tollwayref52_Print_L1_X l_0 r) (tollwayref52_Print_L1_E l_0 r) := by
  refine Does.lp (H := tollwayref52_Print_L1_H l_0) (X := tollwayref52_Print_L1_X l_0) (E := tollwayref52_Print_L1_E l_0) (fun s s2 h => ?_) (fun s r h => ?_) h
  · obtain ⟨v3, k4⟩ := s
    unfold tollwayref52_Print_L1_step at h
    try dsimp only at h
    rcases ite_some h with ⟨c23, h⟩ | ⟨c23, h⟩
    · obtain ⟨x24, h25, h⟩ := bind_some h
      obtain ⟨h26, h⟩ := guard_some h
      obtain ⟨h27, h⟩ := guard_some h
      obtain ⟨r28, h29, h⟩ := bind_some h
      obtain ⟨h30, h⟩ := guard_some h
      rcases ite_some h with ⟨c31, h⟩ | ⟨c31, h⟩
      · obtain ⟨h32, h⟩ := guard_some h
        obtain ⟨s33, h34, h⟩ := bind_some h
        obtain ⟨h35, h⟩ := guard_some h
        simp only [Option.some.injEq, Sum.inl.injEq] at h
        subst h
        have hq := tollwayref52_Print_L1_0 l_0 v3 k4 c23 x24 h25 h26 h27 r28 h29 h30 c31 h32 s33 h34 h35
        first | exact hq | exact Eq.mp (by simp only [tollwayref52_Print_L1_H, List.length_set] <;> rfl) hq
      · obtain ⟨h36, h⟩ := guard_some h
        obtain ⟨s37, h38, h⟩ := bind_some h
        obtain ⟨r39, h40, h⟩ := bind_some h
        obtain ⟨h41, h⟩ := guard_some h
        obtain ⟨h42, h⟩ := guard_some h
        obtain ⟨h43, h⟩ := guard_some h
        simp only [Option.some.injEq, Sum.inl.injEq] at h
        subst h
        have hq := tollwayref52_Print_L1_1 l_0 v3 k4 c23 x24 h25 h26 h27 r28 h29 h30 c31 h36 s37 h38 r39 h40 h41 h42 h43
        first | exact hq | exact Eq.mp (by simp only [tollwayref52_Print_L1_H, List.length_set] <;> rfl) hq
    · simp at h
  · obtain ⟨v3, k4⟩ := s
    unfold tollwayref52_Print_L1_step at h
    try dsimp only at h
    rcases ite_some h with ⟨c23, h⟩ | ⟨c23, h⟩
    · obtain ⟨x24, h25, h⟩ := bind_some h
      obtain ⟨h26, h⟩ := guard_some h
      obtain ⟨h27, h⟩ := guard_some h
      obtain ⟨r28, h29, h⟩ := bind_some h
      obtain ⟨h30, h⟩ := guard_some h
      rcases ite_some h with ⟨c31, h⟩ | ⟨c31, h⟩
      · obtain ⟨h32, h⟩ := guard_some h
        obtain ⟨s33, h34, h⟩ := bind_some h
        obtain ⟨h35, h⟩ := guard_some h
        simp at h
      · obtain ⟨h36, h⟩ := guard_some h
        obtain ⟨s37, h38, h⟩ := bind_some h
        obtain ⟨r39, h40, h⟩ := bind_some h
        obtain ⟨h41, h⟩ := guard_some h
        obtain ⟨h42, h⟩ := guard_some h
        obtain ⟨h43, h⟩ := guard_some h
        simp at h
    · simp only [Option.some.injEq, Sum.inr.injEq] at h
      subst h
      exact ⟨tollwayref52_Print_L1_2 l_0 v3 k4 c23, by intro q; cases q⟩
noncomputable def tollwayref52_Print (l_0 : (List Tapi_Fact)) : Option (List UInt8) :=
  (lp (tollwayref52_Print_L1_step l_0) (([] : List UInt8), (0 : Nat))).bind fun o1 =>
  some o1
theorem tollwayref52_Print_0 (l_0 : (List Tapi_Fact)) (o1 : (List UInt8)) (hl1 : lp (tollwayref52_Print_L1_step l_0) (([] : List UInt8), (0 : Nat)) = some o1) : Ret Tryd.prog GT 15 [.lst (fl Tapi_Fact.enc l_0) l_0.length] (.str o1) [] :=
  Ret.of_view 400 (cs 3 ((.fcut 0 (.exit 0) [(3, .str o1)] [] [] [(0, .lst (fl Tapi_Fact.enc l_0) l_0.length), (3, .str ([] : List UInt8)), (4, .int .i64 (↑(0 : Nat) : Int))] []) :: (cs 2 []))) [] (ps := [((.lst (fl Tapi_Fact.enc l_0) l_0.length : AV) = .lst (fl Tapi_Fact.enc l_0) l_0.length), ((.str [] : AV) = .str ([] : List UInt8)), ((.int .i64 0 : AV) = .int .i64 (↑(0 : Nat) : Int)), (Does Tryd.prog GT 0 (.loop (bodyAt Tryd.prog 15 [1, 1, 0, 1, 0, 0])) (S 44 [(0, .lst (fl Tapi_Fact.enc l_0) l_0.length), (3, .str ([] : List UInt8)), (4, .int .i64 (↑(0 : Nat) : Int))] []) (.exit 0) (S 44 [(3, .str o1)] []))]) (by kernel_rfl) (by kernel_rfl) ⟨rfl, rfl, rfl, ok1 (tollwayref52_Print_L1_does l_0 hl1)⟩
theorem tollwayref52_Print_ret (l_0 : (List Tapi_Fact)) (r : (List UInt8)) (h : tollwayref52_Print l_0 = some r) : Ret Tryd.prog GT 15 [.lst (fl Tapi_Fact.enc l_0) l_0.length] (.str r) [] := by
  unfold tollwayref52_Print at h
  obtain ⟨o1, hl1, h⟩ := bind_some h
  simp only [Option.some.injEq] at h
  subst h
  exact tollwayref52_Print_0 l_0 o1 hl1
noncomputable def tollwaylaw52_TracePrints_L4_step (l_0 : (List Tapi_Fact)) (why_1 : Int) : Nat → Option (Nat ⊕ (Bool ⊕ Unit)) := fun k13 =>
  if (↑k13 : Int) < (↑l_0.length : Int) then
    (l_0[k13]?).bind fun x16 =>
    if (↑x16.Kind.length : Int) > (300 : Int) then
      (tollwaylaw52_awake).bind fun r19 =>
      some (Sum.inr (Sum.inl r19))
    else
      if (↑x16.Key.length : Int) > (300 : Int) then
        (tollwaylaw52_awake).bind fun r22 =>
        some (Sum.inr (Sum.inl r22))
      else
        if InR .i64 ((↑k13 : Int) + 1) then
          some (Sum.inl (k13 + 1))
        else none
  else
    some (Sum.inr (Sum.inr (())))
def tollwaylaw52_TracePrints_L4_H (l_0 : (List Tapi_Fact)) (why_1 : Int) : Nat → St := fun (s : Nat) => S 44 [(0, .lst (fl Tapi_Fact.enc l_0) l_0.length), (1, .int .i64 why_1), (11, .lst (fl Tapi_Fact.enc l_0) l_0.length), (12, .int .i64 (↑l_0.length : Int)), (13, .int .i64 (↑s : Int))] []
theorem tollwaylaw52_TracePrints_L4_0 (l_0 : (List Tapi_Fact)) (why_1 : Int) (k13 : Nat) (c15 : (↑k13 : Int) < (↑l_0.length : Int)) (x16 : Tapi_Fact) (h17 : l_0[k13]? = some x16) (c18 : (↑x16.Kind.length : Int) > (300 : Int)) (r19 : Bool) (h20 : tollwaylaw52_awake = some r19) : Does Tryd.prog GT 0 (bodyAt Tryd.prog 5 [1, 1, 0, 1, 0, 0]) (tollwaylaw52_TracePrints_L4_H l_0 why_1 k13) .ret (S 44 [(4, .bool r19)] []) :=
  Does.of_viewM 0 400 ((.op none .a) :: (.br true) :: (.op none (.i k13)) :: (.op none (.v [.str x16.Kind, .str x16.Key, .int .i64 x16.Why])) :: (cs 5 ((.op none .a) :: (.op none .c) :: (.op (some true) .c) :: (cs 4 [.br true, .ret none [] (.bool r19) [], .op none .c])))) [] (ps := [((decide ((↑k13 : Int) < (↑l_0.length : Int))) = true), ((↑k13 : Int) = ((k13 : Nat) : Int) ∧ k13 < l_0.length), ((fl Tapi_Fact.enc l_0) ≠ []), (sub (fl Tapi_Fact.enc l_0) (k13 * 3) 3 = [.str x16.Kind, .str x16.Key, .int .i64 x16.Why]), ((decide ((↑x16.Kind.length : Int) > (300 : Int))) = true), (true = true), (Ret Tryd.prog GT 8 [] (.bool r19) [])]) (by kernel_rfl) (by kernel_rfl) ⟨(decide_eq_true c15), ⟨rfl, get_lt h17⟩, (fl_ne (f := Tapi_Fact.enc) (z := 2) (fun _ => rfl) h17), (fl_sub0 (f := Tapi_Fact.enc) (z := 3) (j := k13) (fun _ => rfl) h17 rfl), (decide_eq_true c18), rfl, ok1 (tollwaylaw52_awake_ret r19 h20)⟩
theorem tollwaylaw52_TracePrints_L4_1 (l_0 : (List Tapi_Fact)) (why_1 : Int) (k13 : Nat) (c15 : (↑k13 : Int) < (↑l_0.length : Int)) (x16 : Tapi_Fact) (h17 : l_0[k13]? = some x16) (c18 : ¬ ((↑x16.Kind.length : Int) > (300 : Int))) (c21 : (↑x16.Key.length : Int) > (300 : Int)) (r22 : Bool) (h23 : tollwaylaw52_awake = some r22) : Does Tryd.prog GT 0 (bodyAt Tryd.prog 5 [1, 1, 0, 1, 0, 0]) (tollwaylaw52_TracePrints_L4_H l_0 why_1 k13) .ret (S 44 [(4, .bool r22)] []) :=
  Does.of_viewM 0 400 ((.op none .a) :: (.br true) :: (.op none (.i k13)) :: (.op none (.v [.str x16.Kind, .str x16.Key, .int .i64 x16.Why])) :: (cs 5 ((.op none .a) :: (.op none .c) :: (.op (some false) .c) :: (cs 2 [.op none .a, .op none .c, .br true, .ret none [] (.bool r22) [], .op none .c])))) [] (ps := [((decide ((↑k13 : Int) < (↑l_0.length : Int))) = true), ((↑k13 : Int) = ((k13 : Nat) : Int) ∧ k13 < l_0.length), ((fl Tapi_Fact.enc l_0) ≠ []), (sub (fl Tapi_Fact.enc l_0) (k13 * 3) 3 = [.str x16.Kind, .str x16.Key, .int .i64 x16.Why]), ((decide ((↑x16.Kind.length : Int) > (300 : Int))) = false), ((decide ((↑x16.Key.length : Int) > (300 : Int))) = true), (Ret Tryd.prog GT 8 [] (.bool r22) [])]) (by kernel_rfl) (by kernel_rfl) ⟨(decide_eq_true c15), ⟨rfl, get_lt h17⟩, (fl_ne (f := Tapi_Fact.enc) (z := 2) (fun _ => rfl) h17), (fl_sub0 (f := Tapi_Fact.enc) (z := 3) (j := k13) (fun _ => rfl) h17 rfl), (decide_eq_false c18), (decide_eq_true c21), ok1 (tollwaylaw52_awake_ret r22 h23)⟩
theorem tollwaylaw52_TracePrints_L4_2 (l_0 : (List Tapi_Fact)) (why_1 : Int) (k13 : Nat) (c15 : (↑k13 : Int) < (↑l_0.length : Int)) (x16 : Tapi_Fact) (h17 : l_0[k13]? = some x16) (c18 : ¬ ((↑x16.Kind.length : Int) > (300 : Int))) (c21 : ¬ ((↑x16.Key.length : Int) > (300 : Int))) (h24 : InR .i64 ((↑k13 : Int) + 1)) : Does Tryd.prog GT 0 (bodyAt Tryd.prog 5 [1, 1, 0, 1, 0, 0]) (tollwaylaw52_TracePrints_L4_H l_0 why_1 k13) .normal (S 44 [(0, .lst (fl Tapi_Fact.enc l_0) l_0.length), (1, .int .i64 why_1), (11, .lst (fl Tapi_Fact.enc l_0) l_0.length), (12, .int .i64 (↑l_0.length : Int)), (13, .int .i64 ((↑k13 : Int) + 1))] []) :=
  Does.of_viewM 0 400 ((.op none .a) :: (.br true) :: (.op none (.i k13)) :: (.op none (.v [.str x16.Kind, .str x16.Key, .int .i64 x16.Why])) :: (cs 5 ((.op none .a) :: (.op none .c) :: (.op (some false) .c) :: (cs 2 [.op none .a, .op none .c, .br false, .op none .w, .op none .c])))) [] (ps := [((decide ((↑k13 : Int) < (↑l_0.length : Int))) = true), ((↑k13 : Int) = ((k13 : Nat) : Int) ∧ k13 < l_0.length), ((fl Tapi_Fact.enc l_0) ≠ []), (sub (fl Tapi_Fact.enc l_0) (k13 * 3) 3 = [.str x16.Kind, .str x16.Key, .int .i64 x16.Why]), ((decide ((↑x16.Kind.length : Int) > (300 : Int))) = false), ((decide ((↑x16.Key.length : Int) > (300 : Int))) = false), (IntKind.min .i64 ≤ ((↑k13 : Int) + 1) ∧ ((↑k13 : Int) + 1) ≤ IntKind.max .i64)]) (by kernel_rfl) (by kernel_rfl) ⟨(decide_eq_true c15), ⟨rfl, get_lt h17⟩, (fl_ne (f := Tapi_Fact.enc) (z := 2) (fun _ => rfl) h17), (fl_sub0 (f := Tapi_Fact.enc) (z := 3) (j := k13) (fun _ => rfl) h17 rfl), (decide_eq_false c18), (decide_eq_false c21), ok1 h24⟩
theorem tollwaylaw52_TracePrints_L4_3 (l_0 : (List Tapi_Fact)) (why_1 : Int) (k13 : Nat) (c15 : ¬ ((↑k13 : Int) < (↑l_0.length : Int))) : Does Tryd.prog GT 0 (bodyAt Tryd.prog 5 [1, 1, 0, 1, 0, 0]) (tollwaylaw52_TracePrints_L4_H l_0 why_1 k13) (.exit 0) (S 44 [(0, .lst (fl Tapi_Fact.enc l_0) l_0.length), (1, .int .i64 why_1)] []) :=
  Does.of_viewM 0 400 [.op none .a, .br false] [] (ps := [((decide ((↑k13 : Int) < (↑l_0.length : Int))) = false)]) (by kernel_rfl) (by kernel_rfl) (ok1 (decide_eq_false c15))
def tollwaylaw52_TracePrints_L4_X (l_0 : (List Tapi_Fact)) (why_1 : Int) : (Bool ⊕ Unit) → AEx := fun q => match q with | Sum.inl o => .ret | Sum.inr (o) => (.exit 0)
def tollwaylaw52_TracePrints_L4_E (l_0 : (List Tapi_Fact)) (why_1 : Int) : (Bool ⊕ Unit) → St := fun q => match q with | Sum.inl o => S 44 [(4, .bool o)] [] | Sum.inr (o) => S 44 [(0, .lst (fl Tapi_Fact.enc l_0) l_0.length), (1, .int .i64 why_1)] []
theorem tollwaylaw52_TracePrints_L4_does (l_0 : (List Tapi_Fact)) (why_1 : Int) {s : Nat} {r : Bool ⊕ Unit} (h : lp (tollwaylaw52_TracePrints_L4_step l_0 why_1) s = some r) : Does Tryd.prog GT 0 (.loop (bodyAt Tryd.prog 5 [1, 1, 0, 1, 0, 0])) (tollwaylaw52_TracePrints_L4_H l_0 why_1 s) (tollwaylaw52_TracePrints_L4_X l_0 why_1 r) (tollwaylaw52_TracePrints_L4_E l_0 why_1 r) := by
  refine Does.lp (H := tollwaylaw52_TracePrints_L4_H l_0 why_1) (X := tollwaylaw52_TracePrints_L4_X l_0 why_1) (E := tollwaylaw52_TracePrints_L4_E l_0 why_1) (fun s s2 h => ?_) (fun s r h => ?_) h
  · revert h; revert s; intro k13 h
    unfold tollwaylaw52_TracePrints_L4_step at h
    try dsimp only at h
    rcases ite_some h with ⟨c15, h⟩ | ⟨c15, h⟩
    · obtain ⟨x16, h17, h⟩ := bind_some h
      rcases ite_some h with ⟨c18, h⟩ | ⟨c18, h⟩
      · obtain ⟨r19, h20, h⟩ := bind_some h
        simp at h
      · rcases ite_some h with ⟨c21, h⟩ | ⟨c21, h⟩
        · obtain ⟨r22, h23, h⟩ := bind_some h
          simp at h
        · obtain ⟨h24, h⟩ := guard_some h
          simp only [Option.some.injEq, Sum.inl.injEq] at h
          subst h
          have hq := tollwaylaw52_TracePrints_L4_2 l_0 why_1 k13 c15 x16 h17 c18 c21 h24
          first | exact hq | exact Eq.mp (by simp only [tollwaylaw52_TracePrints_L4_H, List.length_set] <;> rfl) hq
    · simp at h
  · revert h; revert s; intro k13 h
    unfold tollwaylaw52_TracePrints_L4_step at h
    try dsimp only at h
    rcases ite_some h with ⟨c15, h⟩ | ⟨c15, h⟩
    · obtain ⟨x16, h17, h⟩ := bind_some h
      rcases ite_some h with ⟨c18, h⟩ | ⟨c18, h⟩
      · obtain ⟨r19, h20, h⟩ := bind_some h
        simp only [Option.some.injEq, Sum.inr.injEq] at h
        subst h
        exact ⟨tollwaylaw52_TracePrints_L4_0 l_0 why_1 k13 c15 x16 h17 c18 r19 h20, by intro q; cases q⟩
      · rcases ite_some h with ⟨c21, h⟩ | ⟨c21, h⟩
        · obtain ⟨r22, h23, h⟩ := bind_some h
          simp only [Option.some.injEq, Sum.inr.injEq] at h
          subst h
          exact ⟨tollwaylaw52_TracePrints_L4_1 l_0 why_1 k13 c15 x16 h17 c18 c21 r22 h23, by intro q; cases q⟩
        · obtain ⟨h24, h⟩ := guard_some h
          simp at h
    · simp only [Option.some.injEq, Sum.inr.injEq] at h
      subst h
      exact ⟨tollwaylaw52_TracePrints_L4_3 l_0 why_1 k13 c15, by intro q; cases q⟩
noncomputable def tollwaylaw52_TracePrints (l_0 : (List Tapi_Fact)) (why_1 : Int) : Option Bool :=
  if (↑l_0.length : Int) > (100 : Int) then
    (tollwaylaw52_awake).bind fun r2 =>
    some r2
  else
    (lp (tollwaylaw52_TracePrints_L4_step l_0 why_1) (0 : Nat)).bind fun qq => match qq with
    | Sum.inl o4 =>
      some o4
    | Sum.inr (o4) =>
      (trace_Print l_0).bind fun r25 =>
      (tollwayref52_Print l_0).bind fun r27 =>
      if r25 = r27 then
        (trace_Why why_1).bind fun r30 =>
        (tollwayref52_Why why_1).bind fun r32 =>
        if r30 = r32 then
          (tollwaylaw52_awake).bind fun r35 =>
          some r35
        else
          some false
      else
        some false
theorem tollwaylaw52_TracePrints_0 (l_0 : (List Tapi_Fact)) (why_1 : Int) (c1 : (↑l_0.length : Int) > (100 : Int)) (r2 : Bool) (h3 : tollwaylaw52_awake = some r2) : Ret Tryd.prog GT 5 [.lst (fl Tapi_Fact.enc l_0) l_0.length, .int .i64 why_1] (.bool r2) [] :=
  Ret.of_view 400 (cs 3 [.op none .a, .br true, .ret none [] (.bool r2) [], .op none .c]) [] (ps := [((decide ((↑l_0.length : Int) > (100 : Int))) = true), (Ret Tryd.prog GT 8 [] (.bool r2) [])]) (by kernel_rfl) (by kernel_rfl) ⟨(decide_eq_true c1), ok1 (tollwaylaw52_awake_ret r2 h3)⟩
theorem tollwaylaw52_TracePrints_1 (l_0 : (List Tapi_Fact)) (why_1 : Int) (c1 : ¬ ((↑l_0.length : Int) > (100 : Int))) (o4 : Bool) (hl4 : lp (tollwaylaw52_TracePrints_L4_step l_0 why_1) (0 : Nat) = some (Sum.inl o4)) : Ret Tryd.prog GT 5 [.lst (fl Tapi_Fact.enc l_0) l_0.length, .int .i64 why_1] (.bool o4) [] :=
  Ret.of_view 400 (cs 3 ((.op none .a) :: (.br false) :: (cs 3 [.fcut 0 .ret [(4, .bool o4)] [] [] [(0, .lst (fl Tapi_Fact.enc l_0) l_0.length), (1, .int .i64 why_1), (11, .lst (fl Tapi_Fact.enc l_0) l_0.length), (12, .int .i64 (↑l_0.length : Int)), (13, .int .i64 (↑(0 : Nat) : Int))] []]))) [] (ps := [((decide ((↑l_0.length : Int) > (100 : Int))) = false), ((.lst (fl Tapi_Fact.enc l_0) l_0.length : AV) = .lst (fl Tapi_Fact.enc l_0) l_0.length), ((.int .i64 why_1 : AV) = .int .i64 why_1), ((.lst (fl Tapi_Fact.enc l_0) l_0.length : AV) = .lst (fl Tapi_Fact.enc l_0) l_0.length), ((.int .i64 (↑l_0.length : Int) : AV) = .int .i64 (↑l_0.length : Int)), ((.int .i64 0 : AV) = .int .i64 (↑(0 : Nat) : Int)), (Does Tryd.prog GT 0 (.loop (bodyAt Tryd.prog 5 [1, 1, 0, 1, 0, 0])) (S 44 [(0, .lst (fl Tapi_Fact.enc l_0) l_0.length), (1, .int .i64 why_1), (11, .lst (fl Tapi_Fact.enc l_0) l_0.length), (12, .int .i64 (↑l_0.length : Int)), (13, .int .i64 (↑(0 : Nat) : Int))] []) .ret (S 44 [(4, .bool o4)] []))]) (by kernel_rfl) (by kernel_rfl) ⟨(decide_eq_false c1), rfl, rfl, rfl, rfl, rfl, ok1 (tollwaylaw52_TracePrints_L4_does l_0 why_1 hl4)⟩
theorem tollwaylaw52_TracePrints_2 (l_0 : (List Tapi_Fact)) (why_1 : Int) (c1 : ¬ ((↑l_0.length : Int) > (100 : Int))) (o4 : Unit) (hl4 : lp (tollwaylaw52_TracePrints_L4_step l_0 why_1) (0 : Nat) = some (Sum.inr (o4))) (r25 : (List UInt8)) (h26 : trace_Print l_0 = some r25) (r27 : (List UInt8)) (h28 : tollwayref52_Print l_0 = some r27) (c29 : r25 = r27) (r30 : (List UInt8)) (h31 : trace_Why why_1 = some r30) (r32 : (List UInt8)) (h33 : tollwayref52_Why why_1 = some r32) (c34 : r30 = r32) (r35 : Bool) (h36 : tollwaylaw52_awake = some r35) : Ret Tryd.prog GT 5 [.lst (fl Tapi_Fact.enc l_0) l_0.length, .int .i64 why_1] (.bool r35) [] :=
  Ret.of_view 400 (cs 3 ((.op none .a) :: (.br false) :: (cs 3 ((.fcut 0 (.exit 0) [(0, .lst (fl Tapi_Fact.enc l_0) l_0.length), (1, .int .i64 why_1)] [] [] [(0, .lst (fl Tapi_Fact.enc l_0) l_0.length), (1, .int .i64 why_1), (11, .lst (fl Tapi_Fact.enc l_0) l_0.length), (12, .int .i64 (↑l_0.length : Int)), (13, .int .i64 (↑(0 : Nat) : Int))] []) :: (.op none .c) :: (.ret none [.lst (fl Tapi_Fact.enc l_0) l_0.length] (.str r25) []) :: (.op none .c) :: (.ret none [.lst (fl Tapi_Fact.enc l_0) l_0.length] (.str r27) []) :: (.op none .a) :: (.op none .c) :: (.op (some true) .c) :: (.ret none [.int .i64 why_1] (.str r30) []) :: (.op none .c) :: (.ret none [.int .i64 why_1] (.str r32) []) :: (.op none .a) :: (cs 2 ((.ret (some true) [] (.bool r35) []) :: (cs 2 []))))))) [] (ps := [((decide ((↑l_0.length : Int) > (100 : Int))) = false), ((.lst (fl Tapi_Fact.enc l_0) l_0.length : AV) = .lst (fl Tapi_Fact.enc l_0) l_0.length), ((.int .i64 why_1 : AV) = .int .i64 why_1), ((.lst (fl Tapi_Fact.enc l_0) l_0.length : AV) = .lst (fl Tapi_Fact.enc l_0) l_0.length), ((.int .i64 (↑l_0.length : Int) : AV) = .int .i64 (↑l_0.length : Int)), ((.int .i64 0 : AV) = .int .i64 (↑(0 : Nat) : Int)), (Does Tryd.prog GT 0 (.loop (bodyAt Tryd.prog 5 [1, 1, 0, 1, 0, 0])) (S 44 [(0, .lst (fl Tapi_Fact.enc l_0) l_0.length), (1, .int .i64 why_1), (11, .lst (fl Tapi_Fact.enc l_0) l_0.length), (12, .int .i64 (↑l_0.length : Int)), (13, .int .i64 (↑(0 : Nat) : Int))] []) (.exit 0) (S 44 [(0, .lst (fl Tapi_Fact.enc l_0) l_0.length), (1, .int .i64 why_1)] [])), ((.lst (fl Tapi_Fact.enc l_0) l_0.length : AV) = .lst (fl Tapi_Fact.enc l_0) l_0.length), (Ret Tryd.prog GT 14 [.lst (fl Tapi_Fact.enc l_0) l_0.length] (.str r25) []), ((.lst (fl Tapi_Fact.enc l_0) l_0.length : AV) = .lst (fl Tapi_Fact.enc l_0) l_0.length), (Ret Tryd.prog GT 15 [.lst (fl Tapi_Fact.enc l_0) l_0.length] (.str r27) []), ((r25 == r27) = true), ((.int .i64 why_1 : AV) = .int .i64 why_1), (Ret Tryd.prog GT 16 [.int .i64 why_1] (.str r30) []), ((.int .i64 why_1 : AV) = .int .i64 why_1), (Ret Tryd.prog GT 17 [.int .i64 why_1] (.str r32) []), ((r30 == r32) = true), (Ret Tryd.prog GT 8 [] (.bool r35) [])]) (by kernel_rfl) (by kernel_rfl) ⟨(decide_eq_false c1), rfl, rfl, rfl, rfl, rfl, (tollwaylaw52_TracePrints_L4_does l_0 why_1 hl4), rfl, (trace_Print_ret l_0 r25 h26), rfl, (tollwayref52_Print_ret l_0 r27 h28), (beq_t c29), rfl, (trace_Why_ret why_1 r30 h31), rfl, (tollwayref52_Why_ret why_1 r32 h33), (beq_t c34), ok1 (tollwaylaw52_awake_ret r35 h36)⟩
theorem tollwaylaw52_TracePrints_3 (l_0 : (List Tapi_Fact)) (why_1 : Int) (c1 : ¬ ((↑l_0.length : Int) > (100 : Int))) (o4 : Unit) (hl4 : lp (tollwaylaw52_TracePrints_L4_step l_0 why_1) (0 : Nat) = some (Sum.inr (o4))) (r25 : (List UInt8)) (h26 : trace_Print l_0 = some r25) (r27 : (List UInt8)) (h28 : tollwayref52_Print l_0 = some r27) (c29 : r25 = r27) (r30 : (List UInt8)) (h31 : trace_Why why_1 = some r30) (r32 : (List UInt8)) (h33 : tollwayref52_Why why_1 = some r32) (c34 : ¬ (r30 = r32)) : Ret Tryd.prog GT 5 [.lst (fl Tapi_Fact.enc l_0) l_0.length, .int .i64 why_1] (.bool false) [] :=
  Ret.of_view 400 (cs 3 ((.op none .a) :: (.br false) :: (cs 3 ((.fcut 0 (.exit 0) [(0, .lst (fl Tapi_Fact.enc l_0) l_0.length), (1, .int .i64 why_1)] [] [] [(0, .lst (fl Tapi_Fact.enc l_0) l_0.length), (1, .int .i64 why_1), (11, .lst (fl Tapi_Fact.enc l_0) l_0.length), (12, .int .i64 (↑l_0.length : Int)), (13, .int .i64 (↑(0 : Nat) : Int))] []) :: (.op none .c) :: (.ret none [.lst (fl Tapi_Fact.enc l_0) l_0.length] (.str r25) []) :: (.op none .c) :: (.ret none [.lst (fl Tapi_Fact.enc l_0) l_0.length] (.str r27) []) :: (.op none .a) :: (.op none .c) :: (.op (some true) .c) :: (.ret none [.int .i64 why_1] (.str r30) []) :: (.op none .c) :: (.ret none [.int .i64 why_1] (.str r32) []) :: (.op none .a) :: (cs 2 ((.op (some false) .c) :: (cs 2 []))))))) [] (ps := [((decide ((↑l_0.length : Int) > (100 : Int))) = false), ((.lst (fl Tapi_Fact.enc l_0) l_0.length : AV) = .lst (fl Tapi_Fact.enc l_0) l_0.length), ((.int .i64 why_1 : AV) = .int .i64 why_1), ((.lst (fl Tapi_Fact.enc l_0) l_0.length : AV) = .lst (fl Tapi_Fact.enc l_0) l_0.length), ((.int .i64 (↑l_0.length : Int) : AV) = .int .i64 (↑l_0.length : Int)), ((.int .i64 0 : AV) = .int .i64 (↑(0 : Nat) : Int)), (Does Tryd.prog GT 0 (.loop (bodyAt Tryd.prog 5 [1, 1, 0, 1, 0, 0])) (S 44 [(0, .lst (fl Tapi_Fact.enc l_0) l_0.length), (1, .int .i64 why_1), (11, .lst (fl Tapi_Fact.enc l_0) l_0.length), (12, .int .i64 (↑l_0.length : Int)), (13, .int .i64 (↑(0 : Nat) : Int))] []) (.exit 0) (S 44 [(0, .lst (fl Tapi_Fact.enc l_0) l_0.length), (1, .int .i64 why_1)] [])), ((.lst (fl Tapi_Fact.enc l_0) l_0.length : AV) = .lst (fl Tapi_Fact.enc l_0) l_0.length), (Ret Tryd.prog GT 14 [.lst (fl Tapi_Fact.enc l_0) l_0.length] (.str r25) []), ((.lst (fl Tapi_Fact.enc l_0) l_0.length : AV) = .lst (fl Tapi_Fact.enc l_0) l_0.length), (Ret Tryd.prog GT 15 [.lst (fl Tapi_Fact.enc l_0) l_0.length] (.str r27) []), ((r25 == r27) = true), ((.int .i64 why_1 : AV) = .int .i64 why_1), (Ret Tryd.prog GT 16 [.int .i64 why_1] (.str r30) []), ((.int .i64 why_1 : AV) = .int .i64 why_1), (Ret Tryd.prog GT 17 [.int .i64 why_1] (.str r32) []), ((r30 == r32) = false)]) (by kernel_rfl) (by kernel_rfl) ⟨(decide_eq_false c1), rfl, rfl, rfl, rfl, rfl, (tollwaylaw52_TracePrints_L4_does l_0 why_1 hl4), rfl, (trace_Print_ret l_0 r25 h26), rfl, (tollwayref52_Print_ret l_0 r27 h28), (beq_t c29), rfl, (trace_Why_ret why_1 r30 h31), rfl, (tollwayref52_Why_ret why_1 r32 h33), ok1 (beq_f c34)⟩
theorem tollwaylaw52_TracePrints_4 (l_0 : (List Tapi_Fact)) (why_1 : Int) (c1 : ¬ ((↑l_0.length : Int) > (100 : Int))) (o4 : Unit) (hl4 : lp (tollwaylaw52_TracePrints_L4_step l_0 why_1) (0 : Nat) = some (Sum.inr (o4))) (r25 : (List UInt8)) (h26 : trace_Print l_0 = some r25) (r27 : (List UInt8)) (h28 : tollwayref52_Print l_0 = some r27) (c29 : ¬ (r25 = r27)) : Ret Tryd.prog GT 5 [.lst (fl Tapi_Fact.enc l_0) l_0.length, .int .i64 why_1] (.bool false) [] :=
  Ret.of_view 400 (cs 3 ((.op none .a) :: (.br false) :: (cs 3 ((.fcut 0 (.exit 0) [(0, .lst (fl Tapi_Fact.enc l_0) l_0.length), (1, .int .i64 why_1)] [] [] [(0, .lst (fl Tapi_Fact.enc l_0) l_0.length), (1, .int .i64 why_1), (11, .lst (fl Tapi_Fact.enc l_0) l_0.length), (12, .int .i64 (↑l_0.length : Int)), (13, .int .i64 (↑(0 : Nat) : Int))] []) :: (.op none .c) :: (.ret none [.lst (fl Tapi_Fact.enc l_0) l_0.length] (.str r25) []) :: (.op none .c) :: (.ret none [.lst (fl Tapi_Fact.enc l_0) l_0.length] (.str r27) []) :: (.op none .a) :: (.op none .c) :: (.op (some false) .c) :: (cs 9 []))))) [] (ps := [((decide ((↑l_0.length : Int) > (100 : Int))) = false), ((.lst (fl Tapi_Fact.enc l_0) l_0.length : AV) = .lst (fl Tapi_Fact.enc l_0) l_0.length), ((.int .i64 why_1 : AV) = .int .i64 why_1), ((.lst (fl Tapi_Fact.enc l_0) l_0.length : AV) = .lst (fl Tapi_Fact.enc l_0) l_0.length), ((.int .i64 (↑l_0.length : Int) : AV) = .int .i64 (↑l_0.length : Int)), ((.int .i64 0 : AV) = .int .i64 (↑(0 : Nat) : Int)), (Does Tryd.prog GT 0 (.loop (bodyAt Tryd.prog 5 [1, 1, 0, 1, 0, 0])) (S 44 [(0, .lst (fl Tapi_Fact.enc l_0) l_0.length), (1, .int .i64 why_1), (11, .lst (fl Tapi_Fact.enc l_0) l_0.length), (12, .int .i64 (↑l_0.length : Int)), (13, .int .i64 (↑(0 : Nat) : Int))] []) (.exit 0) (S 44 [(0, .lst (fl Tapi_Fact.enc l_0) l_0.length), (1, .int .i64 why_1)] [])), ((.lst (fl Tapi_Fact.enc l_0) l_0.length : AV) = .lst (fl Tapi_Fact.enc l_0) l_0.length), (Ret Tryd.prog GT 14 [.lst (fl Tapi_Fact.enc l_0) l_0.length] (.str r25) []), ((.lst (fl Tapi_Fact.enc l_0) l_0.length : AV) = .lst (fl Tapi_Fact.enc l_0) l_0.length), (Ret Tryd.prog GT 15 [.lst (fl Tapi_Fact.enc l_0) l_0.length] (.str r27) []), ((r25 == r27) = false)]) (by kernel_rfl) (by kernel_rfl) ⟨(decide_eq_false c1), rfl, rfl, rfl, rfl, rfl, (tollwaylaw52_TracePrints_L4_does l_0 why_1 hl4), rfl, (trace_Print_ret l_0 r25 h26), rfl, (tollwayref52_Print_ret l_0 r27 h28), ok1 (beq_f c29)⟩
theorem tollwaylaw52_TracePrints_ret (l_0 : (List Tapi_Fact)) (why_1 : Int) (r : Bool) (h : tollwaylaw52_TracePrints l_0 why_1 = some r) : Ret Tryd.prog GT 5 [.lst (fl Tapi_Fact.enc l_0) l_0.length, .int .i64 why_1] (.bool r) [] := by
  unfold tollwaylaw52_TracePrints at h
  rcases ite_some h with ⟨c1, h⟩ | ⟨c1, h⟩
  · obtain ⟨r2, h3, h⟩ := bind_some h
    simp only [Option.some.injEq] at h
    subst h
    exact tollwaylaw52_TracePrints_0 l_0 why_1 c1 r2 h3
  · obtain ⟨qq, hl4, h⟩ := bind_some h
    rcases qq with o4 | o4
    · dsimp only at h
      simp only [Option.some.injEq] at h
      subst h
      exact tollwaylaw52_TracePrints_1 l_0 why_1 c1 o4 hl4
    · dsimp only at h
      obtain ⟨r25, h26, h⟩ := bind_some h
      obtain ⟨r27, h28, h⟩ := bind_some h
      rcases ite_some h with ⟨c29, h⟩ | ⟨c29, h⟩
      · obtain ⟨r30, h31, h⟩ := bind_some h
        obtain ⟨r32, h33, h⟩ := bind_some h
        rcases ite_some h with ⟨c34, h⟩ | ⟨c34, h⟩
        · obtain ⟨r35, h36, h⟩ := bind_some h
          simp only [Option.some.injEq] at h
          subst h
          exact tollwaylaw52_TracePrints_2 l_0 why_1 c1 o4 hl4 r25 h26 r27 h28 c29 r30 h31 r32 h33 c34 r35 h36
        · simp only [Option.some.injEq] at h
          subst h
          exact tollwaylaw52_TracePrints_3 l_0 why_1 c1 o4 hl4 r25 h26 r27 h28 c29 r30 h31 r32 h33 c34
      · simp only [Option.some.injEq] at h
        subst h
        exact tollwaylaw52_TracePrints_4 l_0 why_1 c1 o4 hl4 r25 h26 r27 h28 c29
end Go.Proofs.YtalobodhbbkgdabDoor.Av
