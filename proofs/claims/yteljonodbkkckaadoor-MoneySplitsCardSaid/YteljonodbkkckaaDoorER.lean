import Derived.Test.YteljonodbkkckaaDoorAvX
import Derived.Test.YteljonodbkkckaaDoorProg
import Derived.Tactics
import Derived.Test.YteljonodbkkckaaDoorAwM
import Derived.Test.YteljonodbkkckaaDoorE0
import Derived.Test.YteljonodbkkckaaDoorE1
import Derived.Test.YteljonodbkkckaaDoorES
set_option linter.unusedVariables false
set_option linter.unusedSimpArgs false
set_option maxHeartbeats 4000000
namespace Go.Proofs.YteljonodbkkckaaDoor.Av
open Go Go.Proofs
noncomputable def tollwayref03_Split_L6_step (total_0 : Int) (weights_1 : (List Int)) : (Int × Nat) → Option ((Int × Nat) ⊕ (Unit ⊕ Int))
  | (v6, k7) =>
    if (↑k7 : Int) < (↑weights_1.length : Int) then
      (weights_1[k7]?).bind fun x16 =>
      if x16 < (0 : Int) then
        some (Sum.inr (Sum.inl ()))
      else
        if InR .i64 (1125899906842624 - v6) then
          if x16 > (1125899906842624 - v6) then
            some (Sum.inr (Sum.inl ()))
          else
            if InR .i64 (v6 + x16) then
              if InR .i64 ((↑k7 : Int) + 1) then
                some (Sum.inl ((v6 + x16), (k7 + 1)))
              else none
            else none
        else none
    else
      some (Sum.inr (Sum.inr (v6)))
def tollwayref03_Split_L6_H (total_0 : Int) (weights_1 : (List Int)) : (Int × Nat) → St := fun (s : (Int × Nat)) => S 121 [(0, .int .i64 total_0), (1, .lst (fl e_i64 weights_1) weights_1.length), (6, .int .i64 s.1), (7, .int .i64 (↑s.2 : Int))] []
theorem tollwayref03_Split_L6_0 (total_0 : Int) (weights_1 : (List Int)) (v6 : Int) (k7 : Nat) (c15 : (↑k7 : Int) < (↑weights_1.length : Int)) (x16 : Int) (h17 : weights_1[k7]? = some x16) (c18 : x16 < (0 : Int)) : Does Tryd.prog G0 0 (bodyAt Tryd.prog 10 [1, 1, 1, 1, 0, 1, 0, 0]) (tollwayref03_Split_L6_H total_0 weights_1 (v6, k7)) .ret (S 121 [(4, .nils), (5, .int .i64 1)] []) :=
  Does.of_viewM 0 400 (cs 3 ((.op none .a) :: (.br true) :: (cs 2 ((.op none (.i k7)) :: (.op none (.v [.int .i64 x16])) :: (.op none .a) :: (.op none .c) :: (.op (some true) .c) :: (cs 7 ((.br true) :: (cs 2 []))))))) [] (ps := [((decide ((↑k7 : Int) < (↑weights_1.length : Int))) = true), ((↑k7 : Int) = ((k7 : Nat) : Int) ∧ k7 < weights_1.length), ((fl e_i64 weights_1) ≠ []), (sub (fl e_i64 weights_1) k7 1 = [.int .i64 x16]), ((decide (x16 < (0 : Int))) = true), (true = true)]) (by kernel_rfl) (by kernel_rfl) ⟨(decide_eq_true c15), ⟨rfl, get_lt h17⟩, (fl_ne (f := e_i64) (z := 0) (fun _ => rfl) h17), (fl_sub1 (f := e_i64) (fun _ => rfl) h17 rfl), (decide_eq_true c18), ok1 rfl⟩
theorem tollwayref03_Split_L6_1 (total_0 : Int) (weights_1 : (List Int)) (v6 : Int) (k7 : Nat) (c15 : (↑k7 : Int) < (↑weights_1.length : Int)) (x16 : Int) (h17 : weights_1[k7]? = some x16) (c18 : ¬ (x16 < (0 : Int))) (h19 : InR .i64 (1125899906842624 - v6)) (c20 : x16 > (1125899906842624 - v6)) : Does Tryd.prog G0 0 (bodyAt Tryd.prog 10 [1, 1, 1, 1, 0, 1, 0, 0]) (tollwayref03_Split_L6_H total_0 weights_1 (v6, k7)) .ret (S 121 [(4, .nils), (5, .int .i64 1)] []) :=
  Does.of_viewM 0 400 (cs 3 ((.op none .a) :: (.br true) :: (cs 2 ((.op none (.i k7)) :: (.op none (.v [.int .i64 x16])) :: (.op none .a) :: (.op none .c) :: (.op (some false) .c) :: (.op none .c) :: (.op none (.i k7)) :: (.op none (.v [.int .i64 x16])) :: (.op none .c) :: (.op none .w) :: (.op none .a) :: (.op none .c) :: (.br true) :: (cs 2 []))))) [] (ps := [((decide ((↑k7 : Int) < (↑weights_1.length : Int))) = true), ((↑k7 : Int) = ((k7 : Nat) : Int) ∧ k7 < weights_1.length), ((fl e_i64 weights_1) ≠ []), (sub (fl e_i64 weights_1) k7 1 = [.int .i64 x16]), ((decide (x16 < (0 : Int))) = false), ((↑k7 : Int) = ((k7 : Nat) : Int) ∧ k7 < weights_1.length), ((fl e_i64 weights_1) ≠ []), (sub (fl e_i64 weights_1) k7 1 = [.int .i64 x16]), (IntKind.min .i64 ≤ (1125899906842624 - v6) ∧ (1125899906842624 - v6) ≤ IntKind.max .i64), ((decide (x16 > (1125899906842624 - v6))) = true)]) (by kernel_rfl) (by kernel_rfl) ⟨(decide_eq_true c15), ⟨rfl, get_lt h17⟩, (fl_ne (f := e_i64) (z := 0) (fun _ => rfl) h17), (fl_sub1 (f := e_i64) (fun _ => rfl) h17 rfl), (decide_eq_false c18), ⟨rfl, get_lt h17⟩, (fl_ne (f := e_i64) (z := 0) (fun _ => rfl) h17), (fl_sub1 (f := e_i64) (fun _ => rfl) h17 rfl), h19, ok1 (decide_eq_true c20)⟩
theorem tollwayref03_Split_L6_2 (total_0 : Int) (weights_1 : (List Int)) (v6 : Int) (k7 : Nat) (c15 : (↑k7 : Int) < (↑weights_1.length : Int)) (x16 : Int) (h17 : weights_1[k7]? = some x16) (c18 : ¬ (x16 < (0 : Int))) (h19 : InR .i64 (1125899906842624 - v6)) (c20 : ¬ (x16 > (1125899906842624 - v6))) (h21 : InR .i64 (v6 + x16)) (h22 : InR .i64 ((↑k7 : Int) + 1)) : Does Tryd.prog G0 0 (bodyAt Tryd.prog 10 [1, 1, 1, 1, 0, 1, 0, 0]) (tollwayref03_Split_L6_H total_0 weights_1 (v6, k7)) .normal (S 121 [(0, .int .i64 total_0), (1, .lst (fl e_i64 weights_1) weights_1.length), (6, .int .i64 (v6 + x16)), (7, .int .i64 ((↑k7 : Int) + 1))] []) :=
  Does.of_viewM 0 400 (cs 3 ((.op none .a) :: (.br true) :: (cs 2 ((.op none (.i k7)) :: (.op none (.v [.int .i64 x16])) :: (.op none .a) :: (.op none .c) :: (.op (some false) .c) :: (.op none .c) :: (.op none (.i k7)) :: (.op none (.v [.int .i64 x16])) :: (.op none .c) :: (.op none .w) :: (.op none .a) :: (.op none .c) :: (.br false) :: (cs 3 ((.op none (.i k7)) :: (.op none (.v [.int .i64 x16])) :: (.op none .w) :: (cs 2 [.op none .w, .op none .c]))))))) [] (ps := [((decide ((↑k7 : Int) < (↑weights_1.length : Int))) = true), ((↑k7 : Int) = ((k7 : Nat) : Int) ∧ k7 < weights_1.length), ((fl e_i64 weights_1) ≠ []), (sub (fl e_i64 weights_1) k7 1 = [.int .i64 x16]), ((decide (x16 < (0 : Int))) = false), ((↑k7 : Int) = ((k7 : Nat) : Int) ∧ k7 < weights_1.length), ((fl e_i64 weights_1) ≠ []), (sub (fl e_i64 weights_1) k7 1 = [.int .i64 x16]), (IntKind.min .i64 ≤ (1125899906842624 - v6) ∧ (1125899906842624 - v6) ≤ IntKind.max .i64), ((decide (x16 > (1125899906842624 - v6))) = false), ((↑k7 : Int) = ((k7 : Nat) : Int) ∧ k7 < weights_1.length), ((fl e_i64 weights_1) ≠ []), (sub (fl e_i64 weights_1) k7 1 = [.int .i64 x16]), (IntKind.min .i64 ≤ (v6 + x16) ∧ (v6 + x16) ≤ IntKind.max .i64), (IntKind.min .i64 ≤ ((↑k7 : Int) + 1) ∧ ((↑k7 : Int) + 1) ≤ IntKind.max .i64)]) (by kernel_rfl) (by kernel_rfl) ⟨(decide_eq_true c15), ⟨rfl, get_lt h17⟩, (fl_ne (f := e_i64) (z := 0) (fun _ => rfl) h17), (fl_sub1 (f := e_i64) (fun _ => rfl) h17 rfl), (decide_eq_false c18), ⟨rfl, get_lt h17⟩, (fl_ne (f := e_i64) (z := 0) (fun _ => rfl) h17), (fl_sub1 (f := e_i64) (fun _ => rfl) h17 rfl), h19, (decide_eq_false c20), ⟨rfl, get_lt h17⟩, (fl_ne (f := e_i64) (z := 0) (fun _ => rfl) h17), (fl_sub1 (f := e_i64) (fun _ => rfl) h17 rfl), h21, ok1 h22⟩
theorem tollwayref03_Split_L6_3 (total_0 : Int) (weights_1 : (List Int)) (v6 : Int) (k7 : Nat) (c15 : ¬ ((↑k7 : Int) < (↑weights_1.length : Int))) : Does Tryd.prog G0 0 (bodyAt Tryd.prog 10 [1, 1, 1, 1, 0, 1, 0, 0]) (tollwayref03_Split_L6_H total_0 weights_1 (v6, k7)) (.exit 0) (S 121 [(0, .int .i64 total_0), (1, .lst (fl e_i64 weights_1) weights_1.length), (6, .int .i64 v6)] []) :=
  Does.of_viewM 0 400 (cs 3 [.op none .a, .br false]) [] (ps := [((decide ((↑k7 : Int) < (↑weights_1.length : Int))) = false)]) (by kernel_rfl) (by kernel_rfl) (ok1 (decide_eq_false c15))
def tollwayref03_Split_L6_X (total_0 : Int) (weights_1 : (List Int)) : (Unit ⊕ Int) → AEx := fun q => match q with | Sum.inl o => .ret | Sum.inr (o) => (.exit 0)
def tollwayref03_Split_L6_E (total_0 : Int) (weights_1 : (List Int)) : (Unit ⊕ Int) → St := fun q => match q with | Sum.inl o => S 121 [(4, .nils), (5, .int .i64 1)] [] | Sum.inr (o) => S 121 [(0, .int .i64 total_0), (1, .lst (fl e_i64 weights_1) weights_1.length), (6, .int .i64 o)] []
theorem tollwayref03_Split_L6_does (total_0 : Int) (weights_1 : (List Int)) {s : (Int × Nat)} {r : Unit ⊕ Int} (h : lp (tollwayref03_Split_L6_step total_0 weights_1) s = some r) : Does Tryd.prog G0 0 (.loop (bodyAt Tryd.prog 10 [1, 1, 1, 1, 0, 1, 0, 0])) (tollwayref03_Split_L6_H total_0 weights_1 s) (tollwayref03_Split_L6_X total_0 weights_1 r) (tollwayref03_Split_L6_E total_0 weights_1 r) := by
  refine Does.lp (H := tollwayref03_Split_L6_H total_0 weights_1) (X := tollwayref03_Split_L6_X total_0 weights_1) (E := tollwayref03_Split_L6_E total_0 weights_1) (fun s s2 h => ?_) (fun s r h => ?_) h
  · obtain ⟨v6, k7⟩ := s
    unfold tollwayref03_Split_L6_step at h
    try dsimp only at h
    rcases ite_some h with ⟨c15, h⟩ | ⟨c15, h⟩
    · obtain ⟨x16, h17, h⟩ := bind_some h
      rcases ite_some h with ⟨c18, h⟩ | ⟨c18, h⟩
      · simp at h
      · obtain ⟨h19, h⟩ := guard_some h
        rcases ite_some h with ⟨c20, h⟩ | ⟨c20, h⟩
        · simp at h
        · obtain ⟨h21, h⟩ := guard_some h
          obtain ⟨h22, h⟩ := guard_some h
          simp only [Option.some.injEq, Sum.inl.injEq] at h
          subst h
          have hq := tollwayref03_Split_L6_2 total_0 weights_1 v6 k7 c15 x16 h17 c18 h19 c20 h21 h22
          first | exact hq | exact Eq.mp (by simp only [tollwayref03_Split_L6_H, List.length_set] <;> rfl) hq
    · simp at h
  · obtain ⟨v6, k7⟩ := s
    unfold tollwayref03_Split_L6_step at h
    try dsimp only at h
    rcases ite_some h with ⟨c15, h⟩ | ⟨c15, h⟩
    · obtain ⟨x16, h17, h⟩ := bind_some h
      rcases ite_some h with ⟨c18, h⟩ | ⟨c18, h⟩
      · simp only [Option.some.injEq, Sum.inr.injEq] at h
        subst h
        exact ⟨tollwayref03_Split_L6_0 total_0 weights_1 v6 k7 c15 x16 h17 c18, by intro q; cases q⟩
      · obtain ⟨h19, h⟩ := guard_some h
        rcases ite_some h with ⟨c20, h⟩ | ⟨c20, h⟩
        · simp only [Option.some.injEq, Sum.inr.injEq] at h
          subst h
          exact ⟨tollwayref03_Split_L6_1 total_0 weights_1 v6 k7 c15 x16 h17 c18 h19 c20, by intro q; cases q⟩
        · obtain ⟨h21, h⟩ := guard_some h
          obtain ⟨h22, h⟩ := guard_some h
          simp at h
    · simp only [Option.some.injEq, Sum.inr.injEq] at h
      subst h
      exact ⟨tollwayref03_Split_L6_3 total_0 weights_1 v6 k7 c15, by intro q; cases q⟩
noncomputable def tollwayref03_Split_L24_step (total_0 : Int) (weights_1 : (List Int)) (o6 : Int) : (Int × Nat × (List Int) × (List Int)) → Option ((Int × Nat × (List Int) × (List Int)) ⊕ (Int × (List Int) × (List Int)))
  | (v10, k11, b0, b1) =>
    if (↑k11 : Int) < (↑weights_1.length : Int) then
      if InR .u64 (total_0) then
        (weights_1[k11]?).bind fun x40 =>
        if InR .u64 (x40) then
          if InR .u64 (o6) then
            (tollwayref03_divide total_0 x40 o6).bind fun r44 =>
            if InR .i64 (r44.1) then
              if b0.length + 1 ≤ 4294967296 then
                if b1.length + 1 ≤ 4294967296 then
                  if InR .i64 (v10 - r44.1) then
                    if InR .i64 ((↑k11 : Int) + 1) then
                      some (Sum.inl ((v10 - r44.1), (k11 + 1), (b0 ++ [r44.1]), (b1 ++ [r44.2.1])))
                    else none
                  else none
                else none
              else none
            else none
          else none
        else none
      else none
    else
      some (Sum.inr (v10, b0, b1))
def tollwayref03_Split_L24_H (total_0 : Int) (weights_1 : (List Int)) (o6 : Int) : (Int × Nat × (List Int) × (List Int)) → St := fun (s : (Int × Nat × (List Int) × (List Int))) => S 121 [(0, .int .i64 total_0), (1, .lst (fl e_i64 weights_1) weights_1.length), (6, .int .i64 o6), (8, .vec 0 s.2.2.1.length 1), (9, .vec 1 s.2.2.2.length 1), (10, .int .i64 s.1), (11, .int .i64 (↑s.2.1 : Int))] [{ c := (fl e_i64 s.2.2.1), e := 3, ext := true, fz := 0, pl := true, o := true }, { c := (fl e_u64 s.2.2.2), e := 43, ext := true, fz := 0, pl := true, o := true }]
theorem tollwayref03_Split_L24_0 (total_0 : Int) (weights_1 : (List Int)) (o6 : Int) (v10 : Int) (k11 : Nat) (b0 : (List Int)) (b1 : (List Int)) (c38 : (↑k11 : Int) < (↑weights_1.length : Int)) (h39 : InR .u64 (total_0)) (x40 : Int) (h41 : weights_1[k11]? = some x40) (h42 : InR .u64 (x40)) (h43 : InR .u64 (o6)) (r44 : (Int × Int × Bool)) (h45 : tollwayref03_divide total_0 x40 o6 = some r44) (h46 : InR .i64 (r44.1)) (h47 : b0.length + 1 ≤ 4294967296) (h48 : b1.length + 1 ≤ 4294967296) (h49 : InR .i64 (v10 - r44.1)) (h50 : InR .i64 ((↑k11 : Int) + 1)) : Does Tryd.prog G0 0 (bodyAt Tryd.prog 10 [1, 1, 1, 1, 1, 1, 1, 1, 1, 0, 1, 0, 0]) (tollwayref03_Split_L24_H total_0 weights_1 o6 (v10, k11, b0, b1)) .normal (S 121 [(0, .int .i64 total_0), (1, .lst (fl e_i64 weights_1) weights_1.length), (6, .int .i64 o6), (8, .vec 0 ((b0 ++ [r44.1]).length) 1), (9, .vec 1 ((b1 ++ [r44.2.1]).length) 1), (10, .int .i64 (v10 - r44.1)), (11, .int .i64 ((↑k11 : Int) + 1))] [{ c := (fl e_i64 (b0 ++ [r44.1])), e := 3, ext := true, fz := 0, pl := true, o := true }, { c := (fl e_u64 (b1 ++ [r44.2.1])), e := 43, ext := true, fz := 0, pl := true, o := true }]) :=
  Does.of_viewM 0 400 (cs 3 ((.op none .a) :: (.br true) :: (.op none .c) :: (.op none .w) :: (cs 2 ((.op none (.i k11)) :: (.op none (.v [.int .i64 x40])) :: (.op none .w) :: (.op none .c) :: (.op none .w) :: (.ret none [.int .u64 total_0, .int .u64 x40, .int .u64 o6] (.tup [.int .u64 r44.1, .int .u64 r44.2.1, .bool r44.2.2]) []) :: (cs 9 ((.op none .w) :: (.op none .c) :: (.op none (.ap 4)) :: (.tr (.eqc 3 (fl e_i64 (b0 ++ [r44.1])))) :: (.tr (.eqt (.t 80) (.vec 3 ((b0 ++ [r44.1]).length) 1))) :: (cs 4 ((.op none (.ap 4)) :: (.tr (.eqc 5 (fl e_u64 (b1 ++ [r44.2.1])))) :: (.tr (.eqt (.t 84) (.vec 5 ((b1 ++ [r44.2.1]).length) 1))) :: (cs 3 ((.op none .w) :: (.op none .w) :: (cs 2 [.op none .w, .op none .c]))))))))))) [3, 5] (ps := [((decide ((↑k11 : Int) < (↑weights_1.length : Int))) = true), (IntKind.min .u64 ≤ total_0 ∧ total_0 ≤ IntKind.max .u64), ((↑k11 : Int) = ((k11 : Nat) : Int) ∧ k11 < weights_1.length), ((fl e_i64 weights_1) ≠ []), (sub (fl e_i64 weights_1) k11 1 = [.int .i64 x40]), (IntKind.min .u64 ≤ x40 ∧ x40 ≤ IntKind.max .u64), (IntKind.min .u64 ≤ o6 ∧ o6 ≤ IntKind.max .u64), ((.int .u64 total_0 : AV) = .int .u64 total_0), ((.int .u64 x40 : AV) = .int .u64 x40), ((.int .u64 o6 : AV) = .int .u64 o6), (Ret Tryd.prog G0 22 [.int .u64 total_0, .int .u64 x40, .int .u64 o6] (.tup [.int .u64 r44.1, .int .u64 r44.2.1, .bool r44.2.2]) []), (IntKind.min .i64 ≤ r44.1 ∧ r44.1 ≤ IntKind.max .i64), (0 + 1 ≤ List.length ([.int .i64 r44.1] : List AV)), (List.length ((fl e_i64 b0) : List AV) = b0.length), (List.all ([.int .i64 r44.1] : List AV) AV.one = true), (b0.length + 1 ≤ 4294967296), ((fl e_i64 b0) ++ [.int .i64 r44.1] = (fl e_i64 (b0 ++ [r44.1]))), ((.vec 3 (b0.length + 1) 1 : AV) = .vec 3 ((b0 ++ [r44.1]).length) 1), (0 + 1 ≤ List.length ([.int .u64 r44.2.1] : List AV)), (List.length ((fl e_u64 b1) : List AV) = b1.length), (List.all ([.int .u64 r44.2.1] : List AV) AV.one = true), (b1.length + 1 ≤ 4294967296), ((fl e_u64 b1) ++ [.int .u64 r44.2.1] = (fl e_u64 (b1 ++ [r44.2.1]))), ((.vec 5 (b1.length + 1) 1 : AV) = .vec 5 ((b1 ++ [r44.2.1]).length) 1), (IntKind.min .i64 ≤ r44.1 ∧ r44.1 ≤ IntKind.max .i64), (IntKind.min .i64 ≤ (v10 - r44.1) ∧ (v10 - r44.1) ≤ IntKind.max .i64), (IntKind.min .i64 ≤ ((↑k11 : Int) + 1) ∧ ((↑k11 : Int) + 1) ≤ IntKind.max .i64)]) (by kernel_rfl) (by kernel_rfl) ⟨(decide_eq_true c38), h39, ⟨rfl, get_lt h41⟩, (fl_ne (f := e_i64) (z := 0) (fun _ => rfl) h41), (fl_sub1 (f := e_i64) (fun _ => rfl) h41 rfl), h42, h43, rfl, rfl, rfl, (tollwayref03_divide_ret total_0 x40 o6 r44 h45), h46, (Nat.le_of_ble_eq_true rfl), (fl_length1 (f := e_i64) (fun _ => rfl) _), rfl, h47, (fl_snoc rfl), (by simp), (Nat.le_of_ble_eq_true rfl), (fl_length1 (f := e_u64) (fun _ => rfl) _), rfl, h48, (fl_snoc rfl), (by simp), h46, h49, ok1 h50⟩
theorem tollwayref03_Split_L24_1 (total_0 : Int) (weights_1 : (List Int)) (o6 : Int) (v10 : Int) (k11 : Nat) (b0 : (List Int)) (b1 : (List Int)) (c38 : ¬ ((↑k11 : Int) < (↑weights_1.length : Int))) : Does Tryd.prog G0 0 (bodyAt Tryd.prog 10 [1, 1, 1, 1, 1, 1, 1, 1, 1, 0, 1, 0, 0]) (tollwayref03_Split_L24_H total_0 weights_1 o6 (v10, k11, b0, b1)) (.exit 2) (S 121 [(8, .vec 0 b0.length 1), (9, .vec 1 b1.length 1), (10, .int .i64 v10)] [{ c := (fl e_i64 b0), e := 3, ext := true, fz := 0, pl := true, o := true }, { c := (fl e_u64 b1), e := 43, ext := true, fz := 0, pl := true, o := true }]) :=
  Does.of_viewM 0 400 (cs 3 [.op none .a, .br false]) [0, 1] (ps := [((decide ((↑k11 : Int) < (↑weights_1.length : Int))) = false)]) (by kernel_rfl) (by kernel_rfl) (ok1 (decide_eq_false c38))
def tollwayref03_Split_L24_X (total_0 : Int) (weights_1 : (List Int)) (o6 : Int) : (Int × (List Int) × (List Int)) → AEx := fun o => (.exit 2)
def tollwayref03_Split_L24_E (total_0 : Int) (weights_1 : (List Int)) (o6 : Int) : (Int × (List Int) × (List Int)) → St := fun o => S 121 [(8, .vec 0 o.2.1.length 1), (9, .vec 1 o.2.2.length 1), (10, .int .i64 o.1)] [{ c := (fl e_i64 o.2.1), e := 3, ext := true, fz := 0, pl := true, o := true }, { c := (fl e_u64 o.2.2), e := 43, ext := true, fz := 0, pl := true, o := true }]
theorem tollwayref03_Split_L24_does (total_0 : Int) (weights_1 : (List Int)) (o6 : Int) {s : (Int × Nat × (List Int) × (List Int))} {r : (Int × (List Int) × (List Int))} (h : lp (tollwayref03_Split_L24_step total_0 weights_1 o6) s = some r) : Does Tryd.prog G0 0 (.loop (bodyAt Tryd.prog 10 [1, 1, 1, 1, 1, 1, 1, 1, 1, 0, 1, 0, 0])) (tollwayref03_Split_L24_H total_0 weights_1 o6 s) (tollwayref03_Split_L24_X total_0 weights_1 o6 r) (tollwayref03_Split_L24_E total_0 weights_1 o6 r) := by
  refine Does.lp (H := tollwayref03_Split_L24_H total_0 weights_1 o6) (X := tollwayref03_Split_L24_X total_0 weights_1 o6) (E := tollwayref03_Split_L24_E total_0 weights_1 o6) (fun s s2 h => ?_) (fun s r h => ?_) h
  · obtain ⟨v10, k11, b0, b1⟩ := s
    unfold tollwayref03_Split_L24_step at h
    try dsimp only at h
    rcases ite_some h with ⟨c38, h⟩ | ⟨c38, h⟩
    · obtain ⟨h39, h⟩ := guard_some h
      obtain ⟨x40, h41, h⟩ := bind_some h
      obtain ⟨h42, h⟩ := guard_some h
      obtain ⟨h43, h⟩ := guard_some h
      obtain ⟨r44, h45, h⟩ := bind_some h
      obtain ⟨h46, h⟩ := guard_some h
      obtain ⟨h47, h⟩ := guard_some h
      obtain ⟨h48, h⟩ := guard_some h
      obtain ⟨h49, h⟩ := guard_some h
      obtain ⟨h50, h⟩ := guard_some h
      simp only [Option.some.injEq, Sum.inl.injEq] at h
      subst h
      have hq := tollwayref03_Split_L24_0 total_0 weights_1 o6 v10 k11 b0 b1 c38 h39 x40 h41 h42 h43 r44 h45 h46 h47 h48 h49 h50
      first | exact hq | exact Eq.mp (by simp only [tollwayref03_Split_L24_H, List.length_set] <;> rfl) hq
    · simp at h
  · obtain ⟨v10, k11, b0, b1⟩ := s
    unfold tollwayref03_Split_L24_step at h
    try dsimp only at h
    rcases ite_some h with ⟨c38, h⟩ | ⟨c38, h⟩
    · obtain ⟨h39, h⟩ := guard_some h
      obtain ⟨x40, h41, h⟩ := bind_some h
      obtain ⟨h42, h⟩ := guard_some h
      obtain ⟨h43, h⟩ := guard_some h
      obtain ⟨r44, h45, h⟩ := bind_some h
      obtain ⟨h46, h⟩ := guard_some h
      obtain ⟨h47, h⟩ := guard_some h
      obtain ⟨h48, h⟩ := guard_some h
      obtain ⟨h49, h⟩ := guard_some h
      obtain ⟨h50, h⟩ := guard_some h
      simp at h
    · simp only [Option.some.injEq, Sum.inr.injEq] at h
      subst h
      exact ⟨tollwayref03_Split_L24_1 total_0 weights_1 o6 v10 k11 b0 b1 c38, by intro q; cases q⟩
noncomputable def tollwayref03_Split_L107_step (v10 : Int) (b2 : (List Int)) (b3 : (List Int)) : (Int × Nat) → Option ((Int × Nat) ⊕ Int)
  | (v15, k16) =>
    if (↑k16 : Int) < (↑b3.length : Int) then
      (b3[k16]?).bind fun x118 =>
      if (0 : Int) ≤ v15 then
        (b3[(Int.toNat v15)]?).bind fun x121 =>
        if x118 > x121 then
          if InR .i64 ((↑k16 : Int) + 1) then
            some (Sum.inl ((↑k16 : Int), (k16 + 1)))
          else none
        else
          if InR .i64 ((↑k16 : Int) + 1) then
            some (Sum.inl (v15, (k16 + 1)))
          else none
      else none
    else
      some (Sum.inr v15)
def tollwayref03_Split_L107_H (v10 : Int) (b2 : (List Int)) (b3 : (List Int)) : (Int × Nat) → St := fun (s : (Int × Nat)) => S 121 [(8, .vec 0 b2.length 1), (9, .vec 1 b3.length 1), (10, .int .i64 v10), (15, .int .i64 s.1), (16, .int .i64 (↑s.2 : Int))] [{ c := (fl e_i64 b2), e := 3, ext := true, fz := 0, pl := true, o := true }, { c := (fl e_u64 b3), e := 43, ext := true, fz := 0, pl := true, o := true }]
theorem tollwayref03_Split_L107_0 (v10 : Int) (b2 : (List Int)) (b3 : (List Int)) (v15 : Int) (k16 : Nat) (c117 : (↑k16 : Int) < (↑b3.length : Int)) (x118 : Int) (h119 : b3[k16]? = some x118) (h120 : (0 : Int) ≤ v15) (x121 : Int) (h122 : b3[(Int.toNat v15)]? = some x121) (c123 : x118 > x121) (h124 : InR .i64 ((↑k16 : Int) + 1)) : Does Tryd.prog G0 2 (bodyAt Tryd.prog 10 [1, 1, 1, 1, 1, 1, 1, 1, 1, 1, 0, 0, 0, 1, 0, 1, 0, 1, 0, 0]) (tollwayref03_Split_L107_H v10 b2 b3 (v15, k16)) .normal (S 121 [(8, .vec 0 b2.length 1), (9, .vec 1 b3.length 1), (10, .int .i64 v10), (15, .int .i64 (↑k16 : Int)), (16, .int .i64 ((↑k16 : Int) + 1))] [{ c := (fl e_i64 b2), e := 3, ext := true, fz := 0, pl := true, o := true }, { c := (fl e_u64 b3), e := 43, ext := true, fz := 0, pl := true, o := true }]) :=
  Does.of_viewM 2 400 (cs 3 ((.op none .a) :: (.br true) :: (cs 2 ((.op none (.i k16)) :: (.op none (.v [.int .u64 x118])) :: (cs 2 ((.op none (.i (Int.toNat v15))) :: (.op none (.v [.int .u64 x121])) :: (.op none .a) :: (.br true) :: (cs 3 [.op none .w, .op none .c]))))))) [0, 1] (ps := [((decide ((↑k16 : Int) < (↑b3.length : Int))) = true), ((↑k16 : Int) = ((k16 : Nat) : Int) ∧ k16 < b3.length), (sub (fl e_u64 b3) k16 1 = [.int .u64 x118]), (v15 = (((Int.toNat v15) : Nat) : Int) ∧ (Int.toNat v15) < b3.length), (sub (fl e_u64 b3) (Int.toNat v15) 1 = [.int .u64 x121]), ((decide (x118 > x121)) = true), (IntKind.min .i64 ≤ ((↑k16 : Int) + 1) ∧ ((↑k16 : Int) + 1) ≤ IntKind.max .i64)]) (by kernel_rfl) (by kernel_rfl) ⟨(decide_eq_true c117), ⟨rfl, get_lt h119⟩, (fl_sub1 (f := e_u64) (fun _ => rfl) h119 rfl), ⟨(Int.toNat_of_nonneg h120).symm, get_lt h122⟩, (fl_sub1 (f := e_u64) (fun _ => rfl) h122 rfl), (decide_eq_true c123), ok1 h124⟩
theorem tollwayref03_Split_L107_1 (v10 : Int) (b2 : (List Int)) (b3 : (List Int)) (v15 : Int) (k16 : Nat) (c117 : (↑k16 : Int) < (↑b3.length : Int)) (x118 : Int) (h119 : b3[k16]? = some x118) (h120 : (0 : Int) ≤ v15) (x121 : Int) (h122 : b3[(Int.toNat v15)]? = some x121) (c123 : ¬ (x118 > x121)) (h125 : InR .i64 ((↑k16 : Int) + 1)) : Does Tryd.prog G0 2 (bodyAt Tryd.prog 10 [1, 1, 1, 1, 1, 1, 1, 1, 1, 1, 0, 0, 0, 1, 0, 1, 0, 1, 0, 0]) (tollwayref03_Split_L107_H v10 b2 b3 (v15, k16)) .normal (S 121 [(8, .vec 0 b2.length 1), (9, .vec 1 b3.length 1), (10, .int .i64 v10), (15, .int .i64 v15), (16, .int .i64 ((↑k16 : Int) + 1))] [{ c := (fl e_i64 b2), e := 3, ext := true, fz := 0, pl := true, o := true }, { c := (fl e_u64 b3), e := 43, ext := true, fz := 0, pl := true, o := true }]) :=
  Does.of_viewM 2 400 (cs 3 ((.op none .a) :: (.br true) :: (cs 2 ((.op none (.i k16)) :: (.op none (.v [.int .u64 x118])) :: (cs 2 [.op none (.i (Int.toNat v15)), .op none (.v [.int .u64 x121]), .op none .a, .br false, .op none .c, .op none .w, .op none .c]))))) [0, 1] (ps := [((decide ((↑k16 : Int) < (↑b3.length : Int))) = true), ((↑k16 : Int) = ((k16 : Nat) : Int) ∧ k16 < b3.length), (sub (fl e_u64 b3) k16 1 = [.int .u64 x118]), (v15 = (((Int.toNat v15) : Nat) : Int) ∧ (Int.toNat v15) < b3.length), (sub (fl e_u64 b3) (Int.toNat v15) 1 = [.int .u64 x121]), ((decide (x118 > x121)) = false), (IntKind.min .i64 ≤ ((↑k16 : Int) + 1) ∧ ((↑k16 : Int) + 1) ≤ IntKind.max .i64)]) (by kernel_rfl) (by kernel_rfl) ⟨(decide_eq_true c117), ⟨rfl, get_lt h119⟩, (fl_sub1 (f := e_u64) (fun _ => rfl) h119 rfl), ⟨(Int.toNat_of_nonneg h120).symm, get_lt h122⟩, (fl_sub1 (f := e_u64) (fun _ => rfl) h122 rfl), (decide_eq_false c123), ok1 h125⟩
theorem tollwayref03_Split_L107_2 (v10 : Int) (b2 : (List Int)) (b3 : (List Int)) (v15 : Int) (k16 : Nat) (c117 : ¬ ((↑k16 : Int) < (↑b3.length : Int))) : Does Tryd.prog G0 2 (bodyAt Tryd.prog 10 [1, 1, 1, 1, 1, 1, 1, 1, 1, 1, 0, 0, 0, 1, 0, 1, 0, 1, 0, 0]) (tollwayref03_Split_L107_H v10 b2 b3 (v15, k16)) (.exit 6) (S 121 [(8, .vec 0 b2.length 1), (9, .vec 1 b3.length 1), (10, .int .i64 v10), (15, .int .i64 v15)] [{ c := (fl e_i64 b2), e := 3, ext := true, fz := 0, pl := true, o := true }, { c := (fl e_u64 b3), e := 43, ext := true, fz := 0, pl := true, o := true }]) :=
  Does.of_viewM 2 400 (cs 3 [.op none .a, .br false]) [0, 1] (ps := [((decide ((↑k16 : Int) < (↑b3.length : Int))) = false)]) (by kernel_rfl) (by kernel_rfl) (ok1 (decide_eq_false c117))
def tollwayref03_Split_L107_X (v10 : Int) (b2 : (List Int)) (b3 : (List Int)) : Int → AEx := fun o => (.exit 6)
def tollwayref03_Split_L107_E (v10 : Int) (b2 : (List Int)) (b3 : (List Int)) : Int → St := fun o => S 121 [(8, .vec 0 b2.length 1), (9, .vec 1 b3.length 1), (10, .int .i64 v10), (15, .int .i64 o)] [{ c := (fl e_i64 b2), e := 3, ext := true, fz := 0, pl := true, o := true }, { c := (fl e_u64 b3), e := 43, ext := true, fz := 0, pl := true, o := true }]
theorem tollwayref03_Split_L107_does (v10 : Int) (b2 : (List Int)) (b3 : (List Int)) {s : (Int × Nat)} {r : Int} (h : lp (tollwayref03_Split_L107_step v10 b2 b3) s = some r) : Does Tryd.prog G0 2 (.loop (bodyAt Tryd.prog 10 [1, 1, 1, 1, 1, 1, 1, 1, 1, 1, 0, 0, 0, 1, 0, 1, 0, 1, 0, 0])) (tollwayref03_Split_L107_H v10 b2 b3 s) (tollwayref03_Split_L107_X v10 b2 b3 r) (tollwayref03_Split_L107_E v10 b2 b3 r) := by
  refine Does.lp (H := tollwayref03_Split_L107_H v10 b2 b3) (X := tollwayref03_Split_L107_X v10 b2 b3) (E := tollwayref03_Split_L107_E v10 b2 b3) (fun s s2 h => ?_) (fun s r h => ?_) h
  · obtain ⟨v15, k16⟩ := s
    unfold tollwayref03_Split_L107_step at h
    try dsimp only at h
    rcases ite_some h with ⟨c117, h⟩ | ⟨c117, h⟩
    · obtain ⟨x118, h119, h⟩ := bind_some h
      obtain ⟨h120, h⟩ := guard_some h
      obtain ⟨x121, h122, h⟩ := bind_some h
      rcases ite_some h with ⟨c123, h⟩ | ⟨c123, h⟩
      · obtain ⟨h124, h⟩ := guard_some h
        simp only [Option.some.injEq, Sum.inl.injEq] at h
        subst h
        have hq := tollwayref03_Split_L107_0 v10 b2 b3 v15 k16 c117 x118 h119 h120 x121 h122 c123 h124
        first | exact hq | exact Eq.mp (by simp only [tollwayref03_Split_L107_H, List.length_set] <;> rfl) hq
      · obtain ⟨h125, h⟩ := guard_some h
        simp only [Option.some.injEq, Sum.inl.injEq] at h
        subst h
        have hq := tollwayref03_Split_L107_1 v10 b2 b3 v15 k16 c117 x118 h119 h120 x121 h122 c123 h125
        first | exact hq | exact Eq.mp (by simp only [tollwayref03_Split_L107_H, List.length_set] <;> rfl) hq
    · simp at h
  · obtain ⟨v15, k16⟩ := s
    unfold tollwayref03_Split_L107_step at h
    try dsimp only at h
    rcases ite_some h with ⟨c117, h⟩ | ⟨c117, h⟩
    · obtain ⟨x118, h119, h⟩ := bind_some h
      obtain ⟨h120, h⟩ := guard_some h
      obtain ⟨x121, h122, h⟩ := bind_some h
      rcases ite_some h with ⟨c123, h⟩ | ⟨c123, h⟩
      · obtain ⟨h124, h⟩ := guard_some h
        simp at h
      · obtain ⟨h125, h⟩ := guard_some h
        simp at h
    · simp only [Option.some.injEq, Sum.inr.injEq] at h
      subst h
      exact ⟨tollwayref03_Split_L107_2 v10 b2 b3 v15 k16 c117, by intro q; cases q⟩
noncomputable def tollwayref03_Split_L51_step  : (Int × (List Int) × (List Int)) → Option ((Int × (List Int) × (List Int)) ⊕ ((List Int) × (List Int)))
  | (v10, b2, b3) =>
    if v10 > (0 : Int) then
      (lp (tollwayref03_Split_L107_step v10 b2 b3) ((0 : Int), (1 : Nat))).bind fun o107 =>
      if (0 : Int) ≤ o107 then
        (b2[(Int.toNat o107)]?).bind fun x127 =>
        if InR .i64 (x127 + 1) then
          (b3[(Int.toNat o107)]?).bind fun x130 =>
          if InR .i64 (v10 - 1) then
            some (Sum.inl ((v10 - 1), (List.set b2 (Int.toNat o107) (x127 + 1)), (List.set b3 (Int.toNat o107) 0)))
          else none
        else none
      else none
    else
      some (Sum.inr (b2, b3))
def tollwayref03_Split_L51_H  : (Int × (List Int) × (List Int)) → St := fun (s : (Int × (List Int) × (List Int))) => S 121 [(8, .vec 0 s.2.1.length 1), (9, .vec 1 s.2.2.length 1), (10, .int .i64 s.1)] [{ c := (fl e_i64 s.2.1), e := 3, ext := true, fz := 0, pl := true, o := true }, { c := (fl e_u64 s.2.2), e := 43, ext := true, fz := 0, pl := true, o := true }]
theorem tollwayref03_Split_L51_0  (v10 : Int) (b2 : (List Int)) (b3 : (List Int)) (c106 : v10 > (0 : Int)) (o107 : Int) (hl107 : lp (tollwayref03_Split_L107_step v10 b2 b3) ((0 : Int), (1 : Nat)) = some o107) (h126 : (0 : Int) ≤ o107) (x127 : Int) (h128 : b2[(Int.toNat o107)]? = some x127) (h129 : InR .i64 (x127 + 1)) (x130 : Int) (h131 : b3[(Int.toNat o107)]? = some x130) (h132 : InR .i64 (v10 - 1)) : Does Tryd.prog G0 2 (bodyAt Tryd.prog 10 [1, 1, 1, 1, 1, 1, 1, 1, 1, 1, 0, 0, 0]) (tollwayref03_Split_L51_H  (v10, b2, b3)) .normal (S 121 [(8, .vec 0 b2.length 1), (9, .vec 1 b3.length 1), (10, .int .i64 (v10 - 1))] [{ c := (fl e_i64 (List.set b2 (Int.toNat o107) (x127 + 1))), e := 3, ext := true, fz := 0, pl := true, o := true }, { c := (fl e_u64 (List.set b3 (Int.toNat o107) 0)), e := 43, ext := true, fz := 0, pl := true, o := true }]) :=
  Does.of_viewM 2 400 ((.op none .c) :: (.op none .a) :: (.br true) :: (cs 2 ((.fcut 2 (.exit 6) [(8, .vec 0 b2.length 1), (9, .vec 1 b3.length 1), (10, .int .i64 v10), (15, .int .i64 o107)] [{ c := (fl e_i64 b2), e := 3, ext := true, fz := 0, pl := true, o := true }, { c := (fl e_u64 b3), e := 43, ext := true, fz := 0, pl := true, o := true }] [0, 1] [(8, .vec 0 b2.length 1), (9, .vec 1 b3.length 1), (10, .int .i64 v10), (15, .int .i64 (0 : Int)), (16, .int .i64 (↑(1 : Nat) : Int))] [{ c := (fl e_i64 b2), e := 3, ext := true, fz := 0, pl := true, o := true }, { c := (fl e_u64 b3), e := 43, ext := true, fz := 0, pl := true, o := true }]) :: (cs 4 ((.op none (.i (Int.toNat o107))) :: (.op none (.v [.int .i64 x127])) :: (.op none .w) :: (.op none (.i (Int.toNat o107))) :: (.op none .a) :: (.tr (.eqc 0 (fl e_i64 (List.set b2 (Int.toNat o107) (x127 + 1))))) :: (cs 2 [.op none (.i (Int.toNat o107)), .op none .a, .tr (.eqc 1 (fl e_u64 (List.set b3 (Int.toNat o107) 0))), .op none .c, .op none .w, .op none .c])))))) [0, 1] (ps := [((decide (v10 > (0 : Int))) = true), ((.vec 0 b2.length 1 : AV) = .vec 0 b2.length 1), ((.vec 1 b3.length 1 : AV) = .vec 1 b3.length 1), ((.int .i64 v10 : AV) = .int .i64 v10), ((.int .i64 0 : AV) = .int .i64 (0 : Int)), ((.int .i64 1 : AV) = .int .i64 (↑(1 : Nat) : Int)), (({ c := (fl e_i64 b2), e := 3, ext := true, fz := 0, pl := true, o := true } : Blk) = renB [0, 1] { c := (fl e_i64 b2), e := 3, ext := true, fz := 0, pl := true, o := true }), (({ c := (fl e_u64 b3), e := 43, ext := true, fz := 0, pl := true, o := true } : Blk) = renB [0, 1] { c := (fl e_u64 b3), e := 43, ext := true, fz := 0, pl := true, o := true }), (Does Tryd.prog G0 2 (.loop (bodyAt Tryd.prog 10 [1, 1, 1, 1, 1, 1, 1, 1, 1, 1, 0, 0, 0, 1, 0, 1, 0, 1, 0, 0])) (S 121 [(8, .vec 0 b2.length 1), (9, .vec 1 b3.length 1), (10, .int .i64 v10), (15, .int .i64 (0 : Int)), (16, .int .i64 (↑(1 : Nat) : Int))] [{ c := (fl e_i64 b2), e := 3, ext := true, fz := 0, pl := true, o := true }, { c := (fl e_u64 b3), e := 43, ext := true, fz := 0, pl := true, o := true }]) (.exit 6) (S 121 [(8, .vec 0 b2.length 1), (9, .vec 1 b3.length 1), (10, .int .i64 v10), (15, .int .i64 o107)] [{ c := (fl e_i64 b2), e := 3, ext := true, fz := 0, pl := true, o := true }, { c := (fl e_u64 b3), e := 43, ext := true, fz := 0, pl := true, o := true }])), (o107 = (((Int.toNat o107) : Nat) : Int) ∧ (Int.toNat o107) < b2.length), (sub (fl e_i64 b2) (Int.toNat o107) 1 = [.int .i64 x127]), (IntKind.min .i64 ≤ (x127 + 1) ∧ (x127 + 1) ≤ IntKind.max .i64), (o107 = (((Int.toNat o107) : Nat) : Int) ∧ (Int.toNat o107) < b2.length), ((Int.toNat o107) + 1 ≤ List.length ((fl e_i64 b2) : List AV)), (setL (fl e_i64 b2) (Int.toNat o107) [.int .i64 (x127 + 1)] = (fl e_i64 (List.set b2 (Int.toNat o107) (x127 + 1)))), (o107 = (((Int.toNat o107) : Nat) : Int) ∧ (Int.toNat o107) < b3.length), ((Int.toNat o107) + 1 ≤ List.length ((fl e_u64 b3) : List AV)), (setL (fl e_u64 b3) (Int.toNat o107) [.int .u64 0] = (fl e_u64 (List.set b3 (Int.toNat o107) 0))), (IntKind.min .i64 ≤ (v10 - 1) ∧ (v10 - 1) ≤ IntKind.max .i64)]) (by kernel_rfl) (by kernel_rfl) ⟨(decide_eq_true c106), rfl, rfl, rfl, rfl, rfl, rfl, rfl, (tollwayref03_Split_L107_does v10 b2 b3 hl107), ⟨(Int.toNat_of_nonneg h126).symm, get_lt h128⟩, (fl_sub1 (f := e_i64) (fun _ => rfl) h128 rfl), h129, ⟨(Int.toNat_of_nonneg h126).symm, get_lt h128⟩, (fl_room1 (fun _ => rfl) (get_lt h128)), (fl_set1 (f := e_i64) (fun _ => rfl) (get_lt h128) rfl), ⟨(Int.toNat_of_nonneg h126).symm, get_lt h131⟩, (fl_room1 (fun _ => rfl) (get_lt h131)), (fl_set1 (f := e_u64) (fun _ => rfl) (get_lt h131) rfl), ok1 h132⟩
theorem tollwayref03_Split_L51_1  (v10 : Int) (b2 : (List Int)) (b3 : (List Int)) (c106 : ¬ (v10 > (0 : Int))) : Does Tryd.prog G0 2 (bodyAt Tryd.prog 10 [1, 1, 1, 1, 1, 1, 1, 1, 1, 1, 0, 0, 0]) (tollwayref03_Split_L51_H  (v10, b2, b3)) (.exit 4) (S 121 [(8, .vec 0 b2.length 1)] [{ c := (fl e_i64 b2), e := 3, ext := true, fz := 0, pl := true, o := true }, { c := (fl e_u64 b3), e := 43, ext := true, fz := 0, pl := true, o := true }]) :=
  Does.of_viewM 2 400 [.op none .c, .op none .a, .br false] [0, 1] (ps := [((decide (v10 > (0 : Int))) = false)]) (by kernel_rfl) (by kernel_rfl) (ok1 (decide_eq_false c106))
def tollwayref03_Split_L51_X  : ((List Int) × (List Int)) → AEx := fun o => (.exit 4)
def tollwayref03_Split_L51_E  : ((List Int) × (List Int)) → St := fun o => S 121 [(8, .vec 0 o.1.length 1)] [{ c := (fl e_i64 o.1), e := 3, ext := true, fz := 0, pl := true, o := true }, { c := (fl e_u64 o.2), e := 43, ext := true, fz := 0, pl := true, o := true }]
theorem tollwayref03_Split_L51_does  {s : (Int × (List Int) × (List Int))} {r : ((List Int) × (List Int))} (h : lp (tollwayref03_Split_L51_step ) s = some r) : Does Tryd.prog G0 2 (.loop (bodyAt Tryd.prog 10 [1, 1, 1, 1, 1, 1, 1, 1, 1, 1, 0, 0, 0])) (tollwayref03_Split_L51_H  s) (tollwayref03_Split_L51_X  r) (tollwayref03_Split_L51_E  r) := by
  refine Does.lp (H := tollwayref03_Split_L51_H ) (X := tollwayref03_Split_L51_X ) (E := tollwayref03_Split_L51_E ) (fun s s2 h => ?_) (fun s r h => ?_) h
  · obtain ⟨v10, b2, b3⟩ := s
    unfold tollwayref03_Split_L51_step at h
    try dsimp only at h
    rcases ite_some h with ⟨c106, h⟩ | ⟨c106, h⟩
    · obtain ⟨o107, hl107, h⟩ := bind_some h
      obtain ⟨h126, h⟩ := guard_some h
      obtain ⟨x127, h128, h⟩ := bind_some h
      obtain ⟨h129, h⟩ := guard_some h
      obtain ⟨x130, h131, h⟩ := bind_some h
      obtain ⟨h132, h⟩ := guard_some h
      simp only [Option.some.injEq, Sum.inl.injEq] at h
      subst h
      have hq := tollwayref03_Split_L51_0 v10 b2 b3 c106 o107 hl107 h126 x127 h128 h129 x130 h131 h132
      first | exact hq | exact Eq.mp (by simp only [tollwayref03_Split_L51_H, List.length_set] <;> rfl) hq
    · simp at h
  · obtain ⟨v10, b2, b3⟩ := s
    unfold tollwayref03_Split_L51_step at h
    try dsimp only at h
    rcases ite_some h with ⟨c106, h⟩ | ⟨c106, h⟩
    · obtain ⟨o107, hl107, h⟩ := bind_some h
      obtain ⟨h126, h⟩ := guard_some h
      obtain ⟨x127, h128, h⟩ := bind_some h
      obtain ⟨h129, h⟩ := guard_some h
      obtain ⟨x130, h131, h⟩ := bind_some h
      obtain ⟨h132, h⟩ := guard_some h
      simp at h
    · simp only [Option.some.injEq, Sum.inr.injEq] at h
      subst h
      exact ⟨tollwayref03_Split_L51_1 v10 b2 b3 c106, by intro q; cases q⟩
noncomputable def tollwayref03_Split (total_0 : Int) (weights_1 : (List Int)) : Option ((List Int) × Int) :=
  if total_0 < (0 : Int) then
    some (([] : List Int), 13)
  else
    (tollwayref03_Fits total_0).bind fun r2 =>
    if r2 = true then
      if (↑weights_1.length : Int) > (1024 : Int) then
        some (([] : List Int), 3)
      else
        (lp (tollwayref03_Split_L6_step total_0 weights_1) ((0 : Int), (0 : Nat))).bind fun qq => match qq with
        | Sum.inl o6 =>
          some (([] : List Int), 1)
        | Sum.inr (o6) =>
          if o6 = (0 : Int) then
            some (([] : List Int), 1)
          else
            (lp (tollwayref03_Split_L24_step total_0 weights_1 o6) (total_0, (0 : Nat), ([] : (List Int)), ([] : (List Int)))).bind fun o24 =>
            (lp (tollwayref03_Split_L51_step) (o24.1, o24.2.1, o24.2.2)).bind fun o51 =>
            some (o51.1, 0)
    else
      some (([] : List Int), 13)
theorem tollwayref03_Split_0 (total_0 : Int) (weights_1 : (List Int)) (c1 : total_0 < (0 : Int)) : Ret Tryd.prog G0 10 [.int .i64 total_0, .lst (fl e_i64 weights_1) weights_1.length] (.tup [.vec 0 (([] : List Int).length) 1, .int .i64 13]) [{ c := (fl e_i64 ([] : List Int)), e := 3, ext := true, fz := 0, pl := true, o := true }] :=
  Ret.of_view 400 (cs 3 ((.op none .a) :: (.op none .c) :: (.op (some true) .c) :: (cs 3 ((.br true) :: (cs 2 [.tr (.vec (.t 4) 1 3), .tr (.eqc 0 (fl e_i64 ([] : List Int))), .tr (.eqt (.t 4) (.vec 0 (([] : List Int).length) 1))]))))) [0] (ps := [((decide (total_0 < (0 : Int))) = true), (true = true), ([] = (fl e_i64 ([] : List Int))), ((.vec 0 0 1 : AV) = .vec 0 (([] : List Int).length) 1)]) (by kernel_rfl) (by kernel_rfl) ⟨(decide_eq_true c1), rfl, rfl, ok1 rfl⟩
theorem tollwayref03_Split_1 (total_0 : Int) (weights_1 : (List Int)) (c1 : ¬ (total_0 < (0 : Int))) (r2 : Bool) (h3 : tollwayref03_Fits total_0 = some r2) (c4 : r2 = true) (c5 : (↑weights_1.length : Int) > (1024 : Int)) : Ret Tryd.prog G0 10 [.int .i64 total_0, .lst (fl e_i64 weights_1) weights_1.length] (.tup [.vec 0 (([] : List Int).length) 1, .int .i64 3]) [{ c := (fl e_i64 ([] : List Int)), e := 3, ext := true, fz := 0, pl := true, o := true }] :=
  Ret.of_view 400 (cs 3 ((.op none .a) :: (.op none .c) :: (.op (some false) .c) :: (.ret none [.int .i64 total_0] (.bool r2) []) :: (cs 2 ((.br false) :: (cs 2 ((.op none .a) :: (.br true) :: (cs 2 [.tr (.vec (.t 4) 1 3), .tr (.eqc 0 (fl e_i64 ([] : List Int))), .tr (.eqt (.t 4) (.vec 0 (([] : List Int).length) 1))]))))))) [0] (ps := [((decide (total_0 < (0 : Int))) = false), ((.int .i64 total_0 : AV) = .int .i64 total_0), (Ret Tryd.prog G0 20 [.int .i64 total_0] (.bool r2) []), ((!r2) = false), ((decide ((↑weights_1.length : Int) > (1024 : Int))) = true), ([] = (fl e_i64 ([] : List Int))), ((.vec 0 0 1 : AV) = .vec 0 (([] : List Int).length) 1)]) (by kernel_rfl) (by kernel_rfl) ⟨(decide_eq_false c1), rfl, (tollwayref03_Fits_ret total_0 r2 h3), (not_f c4), (decide_eq_true c5), rfl, ok1 rfl⟩
theorem tollwayref03_Split_2 (total_0 : Int) (weights_1 : (List Int)) (c1 : ¬ (total_0 < (0 : Int))) (r2 : Bool) (h3 : tollwayref03_Fits total_0 = some r2) (c4 : r2 = true) (c5 : ¬ ((↑weights_1.length : Int) > (1024 : Int))) (o6 : Unit) (hl6 : lp (tollwayref03_Split_L6_step total_0 weights_1) ((0 : Int), (0 : Nat)) = some (Sum.inl o6)) : Ret Tryd.prog G0 10 [.int .i64 total_0, .lst (fl e_i64 weights_1) weights_1.length] (.tup [.vec 0 (([] : List Int).length) 1, .int .i64 1]) [{ c := (fl e_i64 ([] : List Int)), e := 3, ext := true, fz := 0, pl := true, o := true }] :=
  Ret.of_view 400 (cs 3 ((.op none .a) :: (.op none .c) :: (.op (some false) .c) :: (.ret none [.int .i64 total_0] (.bool r2) []) :: (cs 2 ((.br false) :: (cs 2 ((.op none .a) :: (.br false) :: (cs 2 [.fcut 0 .ret [(4, .nils), (5, .int .i64 1)] [] [] [(0, .int .i64 total_0), (1, .lst (fl e_i64 weights_1) weights_1.length), (6, .int .i64 (0 : Int)), (7, .int .i64 (↑(0 : Nat) : Int))] [], .tr (.vec (.t 4) 1 3), .tr (.eqc 0 (fl e_i64 ([] : List Int))), .tr (.eqt (.t 4) (.vec 0 (([] : List Int).length) 1))]))))))) [0] (ps := [((decide (total_0 < (0 : Int))) = false), ((.int .i64 total_0 : AV) = .int .i64 total_0), (Ret Tryd.prog G0 20 [.int .i64 total_0] (.bool r2) []), ((!r2) = false), ((decide ((↑weights_1.length : Int) > (1024 : Int))) = false), ((.int .i64 total_0 : AV) = .int .i64 total_0), ((.lst (fl e_i64 weights_1) weights_1.length : AV) = .lst (fl e_i64 weights_1) weights_1.length), ((.int .i64 0 : AV) = .int .i64 (0 : Int)), ((.int .i64 0 : AV) = .int .i64 (↑(0 : Nat) : Int)), (Does Tryd.prog G0 0 (.loop (bodyAt Tryd.prog 10 [1, 1, 1, 1, 0, 1, 0, 0])) (S 121 [(0, .int .i64 total_0), (1, .lst (fl e_i64 weights_1) weights_1.length), (6, .int .i64 (0 : Int)), (7, .int .i64 (↑(0 : Nat) : Int))] []) .ret (S 121 [(4, .nils), (5, .int .i64 1)] [])), ([] = (fl e_i64 ([] : List Int))), ((.vec 0 0 1 : AV) = .vec 0 (([] : List Int).length) 1)]) (by kernel_rfl) (by kernel_rfl) ⟨(decide_eq_false c1), rfl, (tollwayref03_Fits_ret total_0 r2 h3), (not_f c4), (decide_eq_false c5), rfl, rfl, rfl, rfl, (tollwayref03_Split_L6_does total_0 weights_1 hl6), rfl, ok1 rfl⟩
theorem tollwayref03_Split_3 (total_0 : Int) (weights_1 : (List Int)) (c1 : ¬ (total_0 < (0 : Int))) (r2 : Bool) (h3 : tollwayref03_Fits total_0 = some r2) (c4 : r2 = true) (c5 : ¬ ((↑weights_1.length : Int) > (1024 : Int))) (o6 : Int) (hl6 : lp (tollwayref03_Split_L6_step total_0 weights_1) ((0 : Int), (0 : Nat)) = some (Sum.inr (o6))) (c23 : o6 = (0 : Int)) : Ret Tryd.prog G0 10 [.int .i64 total_0, .lst (fl e_i64 weights_1) weights_1.length] (.tup [.vec 0 (([] : List Int).length) 1, .int .i64 1]) [{ c := (fl e_i64 ([] : List Int)), e := 3, ext := true, fz := 0, pl := true, o := true }] :=
  Ret.of_view 400 (cs 3 ((.op none .a) :: (.op none .c) :: (.op (some false) .c) :: (.ret none [.int .i64 total_0] (.bool r2) []) :: (cs 2 ((.br false) :: (cs 2 ((.op none .a) :: (.br false) :: (cs 2 ((.fcut 0 (.exit 0) [(0, .int .i64 total_0), (1, .lst (fl e_i64 weights_1) weights_1.length), (6, .int .i64 o6)] [] [] [(0, .int .i64 total_0), (1, .lst (fl e_i64 weights_1) weights_1.length), (6, .int .i64 (0 : Int)), (7, .int .i64 (↑(0 : Nat) : Int))] []) :: (.op none .c) :: (.op none .a) :: (.br true) :: (cs 2 [.tr (.vec (.t 4) 1 3), .tr (.eqc 0 (fl e_i64 ([] : List Int))), .tr (.eqt (.t 4) (.vec 0 (([] : List Int).length) 1))]))))))))) [0] (ps := [((decide (total_0 < (0 : Int))) = false), ((.int .i64 total_0 : AV) = .int .i64 total_0), (Ret Tryd.prog G0 20 [.int .i64 total_0] (.bool r2) []), ((!r2) = false), ((decide ((↑weights_1.length : Int) > (1024 : Int))) = false), ((.int .i64 total_0 : AV) = .int .i64 total_0), ((.lst (fl e_i64 weights_1) weights_1.length : AV) = .lst (fl e_i64 weights_1) weights_1.length), ((.int .i64 0 : AV) = .int .i64 (0 : Int)), ((.int .i64 0 : AV) = .int .i64 (↑(0 : Nat) : Int)), (Does Tryd.prog G0 0 (.loop (bodyAt Tryd.prog 10 [1, 1, 1, 1, 0, 1, 0, 0])) (S 121 [(0, .int .i64 total_0), (1, .lst (fl e_i64 weights_1) weights_1.length), (6, .int .i64 (0 : Int)), (7, .int .i64 (↑(0 : Nat) : Int))] []) (.exit 0) (S 121 [(0, .int .i64 total_0), (1, .lst (fl e_i64 weights_1) weights_1.length), (6, .int .i64 o6)] [])), ((o6 == (0 : Int)) = true), ([] = (fl e_i64 ([] : List Int))), ((.vec 0 0 1 : AV) = .vec 0 (([] : List Int).length) 1)]) (by kernel_rfl) (by kernel_rfl) ⟨(decide_eq_false c1), rfl, (tollwayref03_Fits_ret total_0 r2 h3), (not_f c4), (decide_eq_false c5), rfl, rfl, rfl, rfl, (tollwayref03_Split_L6_does total_0 weights_1 hl6), (beq_t c23), rfl, ok1 rfl⟩
theorem tollwayref03_Split_4 (total_0 : Int) (weights_1 : (List Int)) (c1 : ¬ (total_0 < (0 : Int))) (r2 : Bool) (h3 : tollwayref03_Fits total_0 = some r2) (c4 : r2 = true) (c5 : ¬ ((↑weights_1.length : Int) > (1024 : Int))) (o6 : Int) (hl6 : lp (tollwayref03_Split_L6_step total_0 weights_1) ((0 : Int), (0 : Nat)) = some (Sum.inr (o6))) (c23 : ¬ (o6 = (0 : Int))) (o24 : (Int × (List Int) × (List Int))) (hl24 : lp (tollwayref03_Split_L24_step total_0 weights_1 o6) (total_0, (0 : Nat), ([] : (List Int)), ([] : (List Int))) = some o24) (o51 : ((List Int) × (List Int))) (hl51 : lp (tollwayref03_Split_L51_step) (o24.1, o24.2.1, o24.2.2) = some o51) : Ret Tryd.prog G0 10 [.int .i64 total_0, .lst (fl e_i64 weights_1) weights_1.length] (.tup [.vec 0 o51.1.length 1, .int .i64 0]) [{ c := (fl e_i64 o51.1), e := 3, ext := true, fz := 0, pl := true, o := true }] :=
  Ret.of_view 400 (cs 3 ((.op none .a) :: (.op none .c) :: (.op (some false) .c) :: (.ret none [.int .i64 total_0] (.bool r2) []) :: (cs 2 ((.br false) :: (cs 2 ((.op none .a) :: (.br false) :: (cs 2 ((.fcut 0 (.exit 0) [(0, .int .i64 total_0), (1, .lst (fl e_i64 weights_1) weights_1.length), (6, .int .i64 o6)] [] [] [(0, .int .i64 total_0), (1, .lst (fl e_i64 weights_1) weights_1.length), (6, .int .i64 (0 : Int)), (7, .int .i64 (↑(0 : Nat) : Int))] []) :: (.op none .c) :: (.op none .a) :: (.br false) :: (cs 5 ((.tr (.vec (.t 8) 1 3)) :: (.tr (.vec (.t 9) 1 43)) :: (.fcut 0 (.exit 2) [(8, .vec 0 o24.2.1.length 1), (9, .vec 1 o24.2.2.length 1), (10, .int .i64 o24.1)] [{ c := (fl e_i64 o24.2.1), e := 3, ext := true, fz := 0, pl := true, o := true }, { c := (fl e_u64 o24.2.2), e := 43, ext := true, fz := 0, pl := true, o := true }] [0, 1] [(0, .int .i64 total_0), (1, .lst (fl e_i64 weights_1) weights_1.length), (6, .int .i64 o6), (8, .vec 0 (([] : (List Int)).length) 1), (9, .vec 1 (([] : (List Int)).length) 1), (10, .int .i64 total_0), (11, .int .i64 (↑(0 : Nat) : Int))] [{ c := (fl e_i64 ([] : (List Int))), e := 3, ext := true, fz := 0, pl := true, o := true }, { c := (fl e_u64 ([] : (List Int))), e := 43, ext := true, fz := 0, pl := true, o := true }]) :: (.fcut 2 (.exit 4) [(8, .vec 0 o51.1.length 1)] [{ c := (fl e_i64 o51.1), e := 3, ext := true, fz := 0, pl := true, o := true }, { c := (fl e_u64 o51.2), e := 43, ext := true, fz := 0, pl := true, o := true }] [2, 3] [(8, .vec 0 o24.2.1.length 1), (9, .vec 1 o24.2.2.length 1), (10, .int .i64 o24.1)] [{ c := (fl e_i64 o24.2.1), e := 3, ext := true, fz := 0, pl := true, o := true }, { c := (fl e_u64 o24.2.2), e := 43, ext := true, fz := 0, pl := true, o := true }]) :: (cs 3 []))))))))))) [2] (ps := [((decide (total_0 < (0 : Int))) = false), ((.int .i64 total_0 : AV) = .int .i64 total_0), (Ret Tryd.prog G0 20 [.int .i64 total_0] (.bool r2) []), ((!r2) = false), ((decide ((↑weights_1.length : Int) > (1024 : Int))) = false), ((.int .i64 total_0 : AV) = .int .i64 total_0), ((.lst (fl e_i64 weights_1) weights_1.length : AV) = .lst (fl e_i64 weights_1) weights_1.length), ((.int .i64 0 : AV) = .int .i64 (0 : Int)), ((.int .i64 0 : AV) = .int .i64 (↑(0 : Nat) : Int)), (Does Tryd.prog G0 0 (.loop (bodyAt Tryd.prog 10 [1, 1, 1, 1, 0, 1, 0, 0])) (S 121 [(0, .int .i64 total_0), (1, .lst (fl e_i64 weights_1) weights_1.length), (6, .int .i64 (0 : Int)), (7, .int .i64 (↑(0 : Nat) : Int))] []) (.exit 0) (S 121 [(0, .int .i64 total_0), (1, .lst (fl e_i64 weights_1) weights_1.length), (6, .int .i64 o6)] [])), ((o6 == (0 : Int)) = false), ((.int .i64 total_0 : AV) = .int .i64 total_0), ((.lst (fl e_i64 weights_1) weights_1.length : AV) = .lst (fl e_i64 weights_1) weights_1.length), ((.int .i64 o6 : AV) = .int .i64 o6), ((.vec 0 0 1 : AV) = .vec 0 (([] : (List Int)).length) 1), ((.vec 1 0 1 : AV) = .vec 1 (([] : (List Int)).length) 1), ((.int .i64 total_0 : AV) = .int .i64 total_0), ((.int .i64 0 : AV) = .int .i64 (↑(0 : Nat) : Int)), (({ c := [], e := 3, ext := true, fz := 0, pl := true, o := true } : Blk) = renB [0, 1] { c := (fl e_i64 ([] : (List Int))), e := 3, ext := true, fz := 0, pl := true, o := true }), (({ c := [], e := 43, ext := true, fz := 0, pl := true, o := true } : Blk) = renB [0, 1] { c := (fl e_u64 ([] : (List Int))), e := 43, ext := true, fz := 0, pl := true, o := true }), (Does Tryd.prog G0 0 (.loop (bodyAt Tryd.prog 10 [1, 1, 1, 1, 1, 1, 1, 1, 1, 0, 1, 0, 0])) (S 121 [(0, .int .i64 total_0), (1, .lst (fl e_i64 weights_1) weights_1.length), (6, .int .i64 o6), (8, .vec 0 (([] : (List Int)).length) 1), (9, .vec 1 (([] : (List Int)).length) 1), (10, .int .i64 total_0), (11, .int .i64 (↑(0 : Nat) : Int))] [{ c := (fl e_i64 ([] : (List Int))), e := 3, ext := true, fz := 0, pl := true, o := true }, { c := (fl e_u64 ([] : (List Int))), e := 43, ext := true, fz := 0, pl := true, o := true }]) (.exit 2) (S 121 [(8, .vec 0 o24.2.1.length 1), (9, .vec 1 o24.2.2.length 1), (10, .int .i64 o24.1)] [{ c := (fl e_i64 o24.2.1), e := 3, ext := true, fz := 0, pl := true, o := true }, { c := (fl e_u64 o24.2.2), e := 43, ext := true, fz := 0, pl := true, o := true }])), ((.vec 2 o24.2.1.length 1 : AV) = .vec 2 o24.2.1.length 1), ((.vec 3 o24.2.2.length 1 : AV) = .vec 3 o24.2.2.length 1), ((.int .i64 o24.1 : AV) = .int .i64 o24.1), (({ c := (fl e_i64 o24.2.1), e := 3, ext := true, fz := 0, pl := true, o := true } : Blk) = renB [2, 3] { c := (fl e_i64 o24.2.1), e := 3, ext := true, fz := 0, pl := true, o := true }), (({ c := (fl e_u64 o24.2.2), e := 43, ext := true, fz := 0, pl := true, o := true } : Blk) = renB [2, 3] { c := (fl e_u64 o24.2.2), e := 43, ext := true, fz := 0, pl := true, o := true }), (Does Tryd.prog G0 2 (.loop (bodyAt Tryd.prog 10 [1, 1, 1, 1, 1, 1, 1, 1, 1, 1, 0, 0, 0])) (S 121 [(8, .vec 0 o24.2.1.length 1), (9, .vec 1 o24.2.2.length 1), (10, .int .i64 o24.1)] [{ c := (fl e_i64 o24.2.1), e := 3, ext := true, fz := 0, pl := true, o := true }, { c := (fl e_u64 o24.2.2), e := 43, ext := true, fz := 0, pl := true, o := true }]) (.exit 4) (S 121 [(8, .vec 0 o51.1.length 1)] [{ c := (fl e_i64 o51.1), e := 3, ext := true, fz := 0, pl := true, o := true }, { c := (fl e_u64 o51.2), e := 43, ext := true, fz := 0, pl := true, o := true }]))]) (by kernel_rfl) (by kernel_rfl) ⟨(decide_eq_false c1), rfl, (tollwayref03_Fits_ret total_0 r2 h3), (not_f c4), (decide_eq_false c5), rfl, rfl, rfl, rfl, (tollwayref03_Split_L6_does total_0 weights_1 hl6), (beq_f c23), rfl, rfl, rfl, (by first | rfl | simp only [List.length_replicate, List.length_set]), (by first | rfl | simp only [List.length_replicate, List.length_set]), rfl, rfl, rfl, rfl, (tollwayref03_Split_L24_does total_0 weights_1 o6 hl24), (by first | rfl | simp only [List.length_replicate, List.length_set]), (by first | rfl | simp only [List.length_replicate, List.length_set]), rfl, rfl, rfl, ok1 (tollwayref03_Split_L51_does hl51)⟩
theorem tollwayref03_Split_5 (total_0 : Int) (weights_1 : (List Int)) (c1 : ¬ (total_0 < (0 : Int))) (r2 : Bool) (h3 : tollwayref03_Fits total_0 = some r2) (c4 : ¬ (r2 = true)) : Ret Tryd.prog G0 10 [.int .i64 total_0, .lst (fl e_i64 weights_1) weights_1.length] (.tup [.vec 0 (([] : List Int).length) 1, .int .i64 13]) [{ c := (fl e_i64 ([] : List Int)), e := 3, ext := true, fz := 0, pl := true, o := true }] :=
  Ret.of_view 400 (cs 3 ((.op none .a) :: (.op none .c) :: (.op (some false) .c) :: (.ret none [.int .i64 total_0] (.bool r2) []) :: (cs 2 ((.br true) :: (cs 2 [.tr (.vec (.t 4) 1 3), .tr (.eqc 0 (fl e_i64 ([] : List Int))), .tr (.eqt (.t 4) (.vec 0 (([] : List Int).length) 1))]))))) [0] (ps := [((decide (total_0 < (0 : Int))) = false), ((.int .i64 total_0 : AV) = .int .i64 total_0), (Ret Tryd.prog G0 20 [.int .i64 total_0] (.bool r2) []), ((!r2) = true), ([] = (fl e_i64 ([] : List Int))), ((.vec 0 0 1 : AV) = .vec 0 (([] : List Int).length) 1)]) (by kernel_rfl) (by kernel_rfl) ⟨(decide_eq_false c1), rfl, (tollwayref03_Fits_ret total_0 r2 h3), (not_t (eq_false_of_ne_true c4)), rfl, ok1 rfl⟩
theorem tollwayref03_Split_ret (total_0 : Int) (weights_1 : (List Int)) (r : ((List Int) × Int)) (h : tollwayref03_Split total_0 weights_1 = some r) : Ret Tryd.prog G0 10 [.int .i64 total_0, .lst (fl e_i64 weights_1) weights_1.length] (.tup [.vec 0 r.1.length 1, .int .i64 r.2]) [{ c := (fl e_i64 r.1), e := 3, ext := true, fz := 0, pl := true, o := true }] := by
  unfold tollwayref03_Split at h
  rcases ite_some h with ⟨c1, h⟩ | ⟨c1, h⟩
  · simp only [Option.some.injEq] at h
    subst h
    exact tollwayref03_Split_0 total_0 weights_1 c1
  · obtain ⟨r2, h3, h⟩ := bind_some h
    rcases ite_some h with ⟨c4, h⟩ | ⟨c4, h⟩
    · rcases ite_some h with ⟨c5, h⟩ | ⟨c5, h⟩
      · simp only [Option.some.injEq] at h
        subst h
        exact tollwayref03_Split_1 total_0 weights_1 c1 r2 h3 c4 c5
      · obtain ⟨qq, hl6, h⟩ := bind_some h
        rcases qq with o6 | o6
        · dsimp only at h
          simp only [Option.some.injEq] at h
          subst h
          exact tollwayref03_Split_2 total_0 weights_1 c1 r2 h3 c4 c5 o6 hl6
        · dsimp only at h
          rcases ite_some h with ⟨c23, h⟩ | ⟨c23, h⟩
          · simp only [Option.some.injEq] at h
            subst h
            exact tollwayref03_Split_3 total_0 weights_1 c1 r2 h3 c4 c5 o6 hl6 c23
          · obtain ⟨o24, hl24, h⟩ := bind_some h
            obtain ⟨o51, hl51, h⟩ := bind_some h
            simp only [Option.some.injEq] at h
            subst h
            exact tollwayref03_Split_4 total_0 weights_1 c1 r2 h3 c4 c5 o6 hl6 c23 o24 hl24 o51 hl51
    · simp only [Option.some.injEq] at h
      subst h
      exact tollwayref03_Split_5 total_0 weights_1 c1 r2 h3 c4
end Go.Proofs.YteljonodbkkckaaDoor.Av
