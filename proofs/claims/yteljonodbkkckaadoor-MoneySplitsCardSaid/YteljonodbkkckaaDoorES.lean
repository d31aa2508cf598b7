import Derived.Test.YteljonodbkkckaaDoorAvX
import Derived.Test.YteljonodbkkckaaDoorProg
import Derived.Tactics
import Derived.Test.YteljonodbkkckaaDoorAwM
import Derived.Test.YteljonodbkkckaaDoorE0
import Derived.Test.YteljonodbkkckaaDoorE1
set_option linter.unusedVariables false
set_option linter.unusedSimpArgs false
set_option maxHeartbeats 4000000
namespace Go.Proofs.YteljonodbkkckaaDoor.Av
open Go Go.Proofs
noncomputable def money_total_L1_step (l_0 : (List Int)) : (Int × Nat) → Option ((Int × Nat) ⊕ Int)
  | (v3, k8) =>
    if (↑k8 : Int) < (↑l_0.length : Int) then
      (l_0[k8]?).bind fun x8 =>
      if InR .i64 (v3 + x8) then
        if InR .i64 ((↑k8 : Int) + 1) then
          some (Sum.inl ((v3 + x8), (k8 + 1)))
        else none
      else none
    else
      some (Sum.inr v3)
def money_total_L1_H (l_0 : (List Int)) : (Int × Nat) → St := fun (s : (Int × Nat)) => S 17 [(3, .int .i64 s.1), (6, .lst (fl e_i64 l_0) l_0.length), (7, .int .i64 (↑l_0.length : Int)), (8, .int .i64 (↑s.2 : Int))] []
theorem money_total_L1_0 (l_0 : (List Int)) (v3 : Int) (k8 : Nat) (c7 : (↑k8 : Int) < (↑l_0.length : Int)) (x8 : Int) (h9 : l_0[k8]? = some x8) (h10 : InR .i64 (v3 + x8)) (h11 : InR .i64 ((↑k8 : Int) + 1)) : Does Tryd.prog G0 0 (bodyAt Tryd.prog 24 [1, 1, 0, 1, 0, 0]) (money_total_L1_H l_0 (v3, k8)) .normal (S 17 [(3, .int .i64 (v3 + x8)), (6, .lst (fl e_i64 l_0) l_0.length), (7, .int .i64 (↑l_0.length : Int)), (8, .int .i64 ((↑k8 : Int) + 1))] []) :=
  Does.of_viewM 0 400 ((.op none .a) :: (.br true) :: (.op none (.i k8)) :: (.op none (.v [.int .i64 x8])) :: (cs 3 [.op none .w, .op none .c, .op none .w, .op none .c])) [] (ps := [((decide ((↑k8 : Int) < (↑l_0.length : Int))) = true), ((↑k8 : Int) = ((k8 : Nat) : Int) ∧ k8 < l_0.length), ((fl e_i64 l_0) ≠ []), (sub (fl e_i64 l_0) k8 1 = [.int .i64 x8]), (IntKind.min .i64 ≤ (v3 + x8) ∧ (v3 + x8) ≤ IntKind.max .i64), (IntKind.min .i64 ≤ ((↑k8 : Int) + 1) ∧ ((↑k8 : Int) + 1) ≤ IntKind.max .i64)]) (by kernel_rfl) (by kernel_rfl) ⟨(decide_eq_true c7), ⟨rfl, get_lt h9⟩, (fl_ne (f := e_i64) (z := 0) (fun _ => rfl) h9), (fl_sub1 (f := e_i64) (fun _ => rfl) h9 rfl), h10, ok1 h11⟩
theorem money_total_L1_1 (l_0 : (List Int)) (v3 : Int) (k8 : Nat) (c7 : ¬ ((↑k8 : Int) < (↑l_0.length : Int))) : Does Tryd.prog G0 0 (bodyAt Tryd.prog 24 [1, 1, 0, 1, 0, 0]) (money_total_L1_H l_0 (v3, k8)) (.exit 0) (S 17 [(3, .int .i64 v3)] []) :=
  Does.of_viewM 0 400 [.op none .a, .br false] [] (ps := [((decide ((↑k8 : Int) < (↑l_0.length : Int))) = false)]) (by kernel_rfl) (by kernel_rfl) (ok1 (decide_eq_false c7))
def money_total_L1_X (l_0 : (List Int)) : Int → AEx := fun o => (.exit 0)
def money_total_L1_E (l_0 : (List Int)) : Int → St := fun o => S 17 [(3, .int .i64 o)] []
theorem money_total_L1_does (l_0 : (List Int)) {s : (Int × Nat)} {r : Int} (h : lp (money_total_L1_step l_0) s = some r) : Does Tryd.prog G0 0 (.loop (bodyAt Tryd.prog 24 [1, 1, 0, 1, 0, 0])) (money_total_L1_H l_0 s) (money_total_L1_X l_0 r) (money_total_L1_E l_0 r) := by
  refine Does.lp (H := money_total_L1_H l_0) (X := money_total_L1_X l_0) (E := money_total_L1_E l_0) (fun s s2 h => ?_) (fun s r h => ?_) h
  · obtain ⟨v3, k8⟩ := s
    unfold money_total_L1_step at h
    try dsimp only at h
    rcases ite_some h with ⟨c7, h⟩ | ⟨c7, h⟩
    · obtain ⟨x8, h9, h⟩ := bind_some h
      obtain ⟨h10, h⟩ := guard_some h
      obtain ⟨h11, h⟩ := guard_some h
      simp only [Option.some.injEq, Sum.inl.injEq] at h
      subst h
      have hq := money_total_L1_0 l_0 v3 k8 c7 x8 h9 h10 h11
      first | exact hq | exact Eq.mp (by simp only [money_total_L1_H, List.length_set] <;> rfl) hq
    · simp at h
  · obtain ⟨v3, k8⟩ := s
    unfold money_total_L1_step at h
    try dsimp only at h
    rcases ite_some h with ⟨c7, h⟩ | ⟨c7, h⟩
    · obtain ⟨x8, h9, h⟩ := bind_some h
      obtain ⟨h10, h⟩ := guard_some h
      obtain ⟨h11, h⟩ := guard_some h
      simp at h
    · simp only [Option.some.injEq, Sum.inr.injEq] at h
      subst h
      exact ⟨money_total_L1_1 l_0 v3 k8 c7, by intro q; cases q⟩
noncomputable def money_total (l_0 : (List Int)) : Option Int :=
  (lp (money_total_L1_step l_0) ((0 : Int), (0 : Nat))).bind fun o1 =>
  some o1
theorem money_total_0 (l_0 : (List Int)) (o1 : Int) (hl1 : lp (money_total_L1_step l_0) ((0 : Int), (0 : Nat)) = some o1) : Ret Tryd.prog G0 24 [.lst (fl e_i64 l_0) l_0.length] (.int .i64 o1) [] :=
  Ret.of_view 400 (cs 5 ((.fcut 0 (.exit 0) [(3, .int .i64 o1)] [] [] [(3, .int .i64 (0 : Int)), (6, .lst (fl e_i64 l_0) l_0.length), (7, .int .i64 (↑l_0.length : Int)), (8, .int .i64 (↑(0 : Nat) : Int))] []) :: (cs 2 []))) [] (ps := [((.int .i64 0 : AV) = .int .i64 (0 : Int)), ((.lst (fl e_i64 l_0) l_0.length : AV) = .lst (fl e_i64 l_0) l_0.length), ((.int .i64 (↑l_0.length : Int) : AV) = .int .i64 (↑l_0.length : Int)), ((.int .i64 0 : AV) = .int .i64 (↑(0 : Nat) : Int)), (Does Tryd.prog G0 0 (.loop (bodyAt Tryd.prog 24 [1, 1, 0, 1, 0, 0])) (S 17 [(3, .int .i64 (0 : Int)), (6, .lst (fl e_i64 l_0) l_0.length), (7, .int .i64 (↑l_0.length : Int)), (8, .int .i64 (↑(0 : Nat) : Int))] []) (.exit 0) (S 17 [(3, .int .i64 o1)] []))]) (by kernel_rfl) (by kernel_rfl) ⟨rfl, rfl, rfl, rfl, ok1 (money_total_L1_does l_0 hl1)⟩
theorem money_total_ret (l_0 : (List Int)) (r : Int) (h : money_total l_0 = some r) : Ret Tryd.prog G0 24 [.lst (fl e_i64 l_0) l_0.length] (.int .i64 r) [] := by
  unfold money_total at h
  obtain ⟨o1, hl1, h⟩ := bind_some h
  simp only [Option.some.injEq] at h
  subst h
  exact money_total_0 l_0 o1 hl1
noncomputable def money_Split_L6_step (amount_0 : Int) (weights_1 : (List Int)) : (Int × Nat) → Option ((Int × Nat) ⊕ (Unit ⊕ Int))
  | (v6, k34) =>
    if (↑k34 : Int) < (↑weights_1.length : Int) then
      (weights_1[k34]?).bind fun x16 =>
      if x16 < (0 : Int) then
        some (Sum.inr (Sum.inl ()))
      else
        if InR .i64 (1125899906842624 - v6) then
          if x16 > (1125899906842624 - v6) then
            some (Sum.inr (Sum.inl ()))
          else
            if InR .i64 (v6 + x16) then
              if InR .i64 ((↑k34 : Int) + 1) then
                some (Sum.inl ((v6 + x16), (k34 + 1)))
              else none
            else none
        else none
    else
      some (Sum.inr (Sum.inr (v6)))
def money_Split_L6_H (amount_0 : Int) (weights_1 : (List Int)) : (Int × Nat) → St := fun (s : (Int × Nat)) => S 138 [(0, .int .i64 amount_0), (1, .lst (fl e_i64 weights_1) weights_1.length), (6, .int .i64 s.1), (32, .lst (fl e_i64 weights_1) weights_1.length), (33, .int .i64 (↑weights_1.length : Int)), (34, .int .i64 (↑s.2 : Int))] []
theorem money_Split_L6_0 (amount_0 : Int) (weights_1 : (List Int)) (v6 : Int) (k34 : Nat) (c15 : (↑k34 : Int) < (↑weights_1.length : Int)) (x16 : Int) (h17 : weights_1[k34]? = some x16) (c18 : x16 < (0 : Int)) : Does Tryd.prog G0 0 (bodyAt Tryd.prog 9 [1, 1, 1, 1, 0, 1, 0, 0]) (money_Split_L6_H amount_0 weights_1 (v6, k34)) .ret (S 138 [(4, .nils), (5, .int .i64 1)] []) :=
  Does.of_viewM 0 400 ((.op none .a) :: (.br true) :: (.op none (.i k34)) :: (.op none (.v [.int .i64 x16])) :: (cs 2 ((.op none .a) :: (.op none .c) :: (.op (some true) .c) :: (cs 4 ((.br true) :: (cs 2 [])))))) [] (ps := [((decide ((↑k34 : Int) < (↑weights_1.length : Int))) = true), ((↑k34 : Int) = ((k34 : Nat) : Int) ∧ k34 < weights_1.length), ((fl e_i64 weights_1) ≠ []), (sub (fl e_i64 weights_1) k34 1 = [.int .i64 x16]), ((decide (x16 < (0 : Int))) = true), (true = true)]) (by kernel_rfl) (by kernel_rfl) ⟨(decide_eq_true c15), ⟨rfl, get_lt h17⟩, (fl_ne (f := e_i64) (z := 0) (fun _ => rfl) h17), (fl_sub1 (f := e_i64) (fun _ => rfl) h17 rfl), (decide_eq_true c18), ok1 rfl⟩
theorem money_Split_L6_1 (amount_0 : Int) (weights_1 : (List Int)) (v6 : Int) (k34 : Nat) (c15 : (↑k34 : Int) < (↑weights_1.length : Int)) (x16 : Int) (h17 : weights_1[k34]? = some x16) (c18 : ¬ (x16 < (0 : Int))) (h19 : InR .i64 (1125899906842624 - v6)) (c20 : x16 > (1125899906842624 - v6)) : Does Tryd.prog G0 0 (bodyAt Tryd.prog 9 [1, 1, 1, 1, 0, 1, 0, 0]) (money_Split_L6_H amount_0 weights_1 (v6, k34)) .ret (S 138 [(4, .nils), (5, .int .i64 1)] []) :=
  Does.of_viewM 0 400 ((.op none .a) :: (.br true) :: (.op none (.i k34)) :: (.op none (.v [.int .i64 x16])) :: (cs 2 ((.op none .a) :: (.op none .c) :: (.op (some false) .c) :: (.op none .c) :: (.op none .w) :: (.op none .a) :: (.op none .c) :: (.br true) :: (cs 2 [])))) [] (ps := [((decide ((↑k34 : Int) < (↑weights_1.length : Int))) = true), ((↑k34 : Int) = ((k34 : Nat) : Int) ∧ k34 < weights_1.length), ((fl e_i64 weights_1) ≠ []), (sub (fl e_i64 weights_1) k34 1 = [.int .i64 x16]), ((decide (x16 < (0 : Int))) = false), (IntKind.min .i64 ≤ (1125899906842624 - v6) ∧ (1125899906842624 - v6) ≤ IntKind.max .i64), ((decide (x16 > (1125899906842624 - v6))) = true)]) (by kernel_rfl) (by kernel_rfl) ⟨(decide_eq_true c15), ⟨rfl, get_lt h17⟩, (fl_ne (f := e_i64) (z := 0) (fun _ => rfl) h17), (fl_sub1 (f := e_i64) (fun _ => rfl) h17 rfl), (decide_eq_false c18), h19, ok1 (decide_eq_true c20)⟩
theorem money_Split_L6_2 (amount_0 : Int) (weights_1 : (List Int)) (v6 : Int) (k34 : Nat) (c15 : (↑k34 : Int) < (↑weights_1.length : Int)) (x16 : Int) (h17 : weights_1[k34]? = some x16) (c18 : ¬ (x16 < (0 : Int))) (h19 : InR .i64 (1125899906842624 - v6)) (c20 : ¬ (x16 > (1125899906842624 - v6))) (h21 : InR .i64 (v6 + x16)) (h22 : InR .i64 ((↑k34 : Int) + 1)) : Does Tryd.prog G0 0 (bodyAt Tryd.prog 9 [1, 1, 1, 1, 0, 1, 0, 0]) (money_Split_L6_H amount_0 weights_1 (v6, k34)) .normal (S 138 [(0, .int .i64 amount_0), (1, .lst (fl e_i64 weights_1) weights_1.length), (6, .int .i64 (v6 + x16)), (32, .lst (fl e_i64 weights_1) weights_1.length), (33, .int .i64 (↑weights_1.length : Int)), (34, .int .i64 ((↑k34 : Int) + 1))] []) :=
  Does.of_viewM 0 400 ((.op none .a) :: (.br true) :: (.op none (.i k34)) :: (.op none (.v [.int .i64 x16])) :: (cs 2 ((.op none .a) :: (.op none .c) :: (.op (some false) .c) :: (.op none .c) :: (.op none .w) :: (.op none .a) :: (.op none .c) :: (.br false) :: (cs 2 [.op none .w, .op none .c, .op none .w, .op none .c])))) [] (ps := [((decide ((↑k34 : Int) < (↑weights_1.length : Int))) = true), ((↑k34 : Int) = ((k34 : Nat) : Int) ∧ k34 < weights_1.length), ((fl e_i64 weights_1) ≠ []), (sub (fl e_i64 weights_1) k34 1 = [.int .i64 x16]), ((decide (x16 < (0 : Int))) = false), (IntKind.min .i64 ≤ (1125899906842624 - v6) ∧ (1125899906842624 - v6) ≤ IntKind.max .i64), ((decide (x16 > (1125899906842624 - v6))) = false), (IntKind.min .i64 ≤ (v6 + x16) ∧ (v6 + x16) ≤ IntKind.max .i64), (IntKind.min .i64 ≤ ((↑k34 : Int) + 1) ∧ ((↑k34 : Int) + 1) ≤ IntKind.max .i64)]) (by kernel_rfl) (by kernel_rfl) ⟨(decide_eq_true c15), ⟨rfl, get_lt h17⟩, (fl_ne (f := e_i64) (z := 0) (fun _ => rfl) h17), (fl_sub1 (f := e_i64) (fun _ => rfl) h17 rfl), (decide_eq_false c18), h19, (decide_eq_false c20), h21, ok1 h22⟩
theorem money_Split_L6_3 (amount_0 : Int) (weights_1 : (List Int)) (v6 : Int) (k34 : Nat) (c15 : ¬ ((↑k34 : Int) < (↑weights_1.length : Int))) : Does Tryd.prog G0 0 (bodyAt Tryd.prog 9 [1, 1, 1, 1, 0, 1, 0, 0]) (money_Split_L6_H amount_0 weights_1 (v6, k34)) (.exit 0) (S 138 [(0, .int .i64 amount_0), (1, .lst (fl e_i64 weights_1) weights_1.length), (6, .int .i64 v6)] []) :=
  Does.of_viewM 0 400 [.op none .a, .br false] [] (ps := [((decide ((↑k34 : Int) < (↑weights_1.length : Int))) = false)]) (by kernel_rfl) (by kernel_rfl) (ok1 (decide_eq_false c15))
def money_Split_L6_X (amount_0 : Int) (weights_1 : (List Int)) : (Unit ⊕ Int) → AEx := fun q => match q with | Sum.inl o => .ret | Sum.inr (o) => (.exit 0)
def money_Split_L6_E (amount_0 : Int) (weights_1 : (List Int)) : (Unit ⊕ Int) → St := fun q => match q with | Sum.inl o => S 138 [(4, .nils), (5, .int .i64 1)] [] | Sum.inr (o) => S 138 [(0, .int .i64 amount_0), (1, .lst (fl e_i64 weights_1) weights_1.length), (6, .int .i64 o)] []
theorem money_Split_L6_does (amount_0 : Int) (weights_1 : (List Int)) {s : (Int × Nat)} {r : Unit ⊕ Int} (h : lp (money_Split_L6_step amount_0 weights_1) s = some r) : Does Tryd.prog G0 0 (.loop (bodyAt Tryd.prog 9 [1, 1, 1, 1, 0, 1, 0, 0])) (money_Split_L6_H amount_0 weights_1 s) (money_Split_L6_X amount_0 weights_1 r) (money_Split_L6_E amount_0 weights_1 r) := by
  refine Does.lp (H := money_Split_L6_H amount_0 weights_1) (X := money_Split_L6_X amount_0 weights_1) (E := money_Split_L6_E amount_0 weights_1) (fun s s2 h => ?_) (fun s r h => ?_) h
  · obtain ⟨v6, k34⟩ := s
    unfold money_Split_L6_step at h
    try dsimp only at h
    rcases ite_some h with ⟨c15, h⟩ | ⟨c15, h⟩
    · obtain ⟨x16, h17, h⟩ := bind_some h
      rcases ite_some h with ⟨c18, h⟩ | ⟨c18, h⟩
      · simp at h
      · obtain ⟨h19, h⟩ := guard_some h
        rcases ite_some h with ⟨c20, h⟩ | ⟨c20, h⟩
        · simp at h
        · obtain ⟨h21, h⟩ := guard_some h
          obtain ⟨h22, h⟩ := guard_some h
          simp only [Option.some.injEq, Sum.inl.injEq] at h
          subst h
          have hq := money_Split_L6_2 amount_0 weights_1 v6 k34 c15 x16 h17 c18 h19 c20 h21 h22
          first | exact hq | exact Eq.mp (by simp only [money_Split_L6_H, List.length_set] <;> rfl) hq
    · simp at h
  · obtain ⟨v6, k34⟩ := s
    unfold money_Split_L6_step at h
    try dsimp only at h
    rcases ite_some h with ⟨c15, h⟩ | ⟨c15, h⟩
    · obtain ⟨x16, h17, h⟩ := bind_some h
      rcases ite_some h with ⟨c18, h⟩ | ⟨c18, h⟩
      · simp only [Option.some.injEq, Sum.inr.injEq] at h
        subst h
        exact ⟨money_Split_L6_0 amount_0 weights_1 v6 k34 c15 x16 h17 c18, by intro q; cases q⟩
      · obtain ⟨h19, h⟩ := guard_some h
        rcases ite_some h with ⟨c20, h⟩ | ⟨c20, h⟩
        · simp only [Option.some.injEq, Sum.inr.injEq] at h
          subst h
          exact ⟨money_Split_L6_1 amount_0 weights_1 v6 k34 c15 x16 h17 c18 h19 c20, by intro q; cases q⟩
        · obtain ⟨h21, h⟩ := guard_some h
          obtain ⟨h22, h⟩ := guard_some h
          simp at h
    · simp only [Option.some.injEq, Sum.inr.injEq] at h
      subst h
      exact ⟨money_Split_L6_3 amount_0 weights_1 v6 k34 c15, by intro q; cases q⟩
noncomputable def money_Split_L25_step (amount_0 : Int) (weights_1 : (List Int)) (o6 : Int) : (Nat × (List Int) × (List Int)) → Option ((Nat × (List Int) × (List Int)) ⊕ ((List Int) × (List Int)))
  | (k60, b0, b1) =>
    if (↑k60 : Int) < (↑weights_1.length : Int) then
      (weights_1[k60]?).bind fun x58 =>
      if InR .u64 (amount_0) then
        if InR .u64 (x58) then
          (math_bits_Mul64 amount_0 x58).bind fun r62 =>
          if InR .u64 (o6) then
            (math_bits_Div64 r62.1 r62.2 o6).bind fun r65 =>
            if InR .i64 (r65.1) then
              (b0[k60]?).bind fun x68 =>
              (b1[k60]?).bind fun x70 =>
              if InR .i64 ((↑k60 : Int) + 1) then
                some (Sum.inl ((k60 + 1), (List.set b0 k60 r65.1), (List.set b1 k60 r65.2)))
              else none
            else none
          else none
        else none
      else none
    else
      some (Sum.inr (b0, b1))
def money_Split_L25_H (amount_0 : Int) (weights_1 : (List Int)) (o6 : Int) : (Nat × (List Int) × (List Int)) → St := fun (s : (Nat × (List Int) × (List Int))) => S 138 [(0, .int .i64 amount_0), (1, .lst (fl e_i64 weights_1) weights_1.length), (6, .int .i64 o6), (9, .vec 0 s.2.1.length 1), (10, .vec 1 s.2.2.length 1), (58, .lst (fl e_i64 weights_1) weights_1.length), (59, .int .i64 (↑weights_1.length : Int)), (60, .int .i64 (↑s.1 : Int))] [{ c := (fl e_i64 s.2.1), e := 3, ext := true, fz := 0, pl := true, o := true }, { c := (fl e_u64 s.2.2), e := 43, ext := true, fz := 0, pl := true, o := true }]
theorem money_Split_L25_0 (amount_0 : Int) (weights_1 : (List Int)) (o6 : Int) (k60 : Nat) (b0 : (List Int)) (b1 : (List Int)) (c57 : (↑k60 : Int) < (↑weights_1.length : Int)) (x58 : Int) (h59 : weights_1[k60]? = some x58) (h60 : InR .u64 (amount_0)) (h61 : InR .u64 (x58)) (r62 : (Int × Int)) (h63 : math_bits_Mul64 amount_0 x58 = some r62) (h64 : InR .u64 (o6)) (r65 : (Int × Int)) (h66 : math_bits_Div64 r62.1 r62.2 o6 = some r65) (h67 : InR .i64 (r65.1)) (x68 : Int) (h69 : b0[k60]? = some x68) (x70 : Int) (h71 : b1[k60]? = some x70) (h72 : InR .i64 ((↑k60 : Int) + 1)) : Does Tryd.prog G0 2 (bodyAt Tryd.prog 9 [1, 1, 1, 1, 1, 1, 1, 1, 0, 1, 0, 0]) (money_Split_L25_H amount_0 weights_1 o6 (k60, b0, b1)) .normal (S 138 [(0, .int .i64 amount_0), (1, .lst (fl e_i64 weights_1) weights_1.length), (6, .int .i64 o6), (9, .vec 0 b0.length 1), (10, .vec 1 b1.length 1), (58, .lst (fl e_i64 weights_1) weights_1.length), (59, .int .i64 (↑weights_1.length : Int)), (60, .int .i64 ((↑k60 : Int) + 1))] [{ c := (fl e_i64 (List.set b0 k60 r65.1)), e := 3, ext := true, fz := 0, pl := true, o := true }, { c := (fl e_u64 (List.set b1 k60 r65.2)), e := 43, ext := true, fz := 0, pl := true, o := true }]) :=
  Does.of_viewM 2 400 ((.op none .a) :: (.br true) :: (.op none .c) :: (.op none (.i k60)) :: (.op none (.v [.int .i64 x58])) :: (cs 3 ((.op none .w) :: (.op none .c) :: (.op none .w) :: (.ret none [.int .u64 amount_0, .int .u64 x58] (.tup [.int .u64 r62.1, .int .u64 r62.2]) []) :: (cs 8 ((.op none .w) :: (.ret none [.int .u64 r62.1, .int .u64 r62.2, .int .u64 o6] (.tup [.int .u64 r65.1, .int .u64 r65.2]) []) :: (cs 10 [.op none .w, .op none .c, .op none (.i k60), .op none .a, .tr (.eqc 0 (fl e_i64 (List.set b0 k60 r65.1))), .op none (.i k60), .op none .a, .tr (.eqc 1 (fl e_u64 (List.set b1 k60 r65.2))), .op none .w, .op none .c])))))) [0, 1] (ps := [((decide ((↑k60 : Int) < (↑weights_1.length : Int))) = true), ((↑k60 : Int) = ((k60 : Nat) : Int) ∧ k60 < weights_1.length), ((fl e_i64 weights_1) ≠ []), (sub (fl e_i64 weights_1) k60 1 = [.int .i64 x58]), (IntKind.min .u64 ≤ amount_0 ∧ amount_0 ≤ IntKind.max .u64), (IntKind.min .u64 ≤ x58 ∧ x58 ≤ IntKind.max .u64), ((.int .u64 amount_0 : AV) = .int .u64 amount_0), ((.int .u64 x58 : AV) = .int .u64 x58), (Ret Tryd.prog G0 18 [.int .u64 amount_0, .int .u64 x58] (.tup [.int .u64 r62.1, .int .u64 r62.2]) []), (IntKind.min .u64 ≤ o6 ∧ o6 ≤ IntKind.max .u64), ((.int .u64 r62.1 : AV) = .int .u64 r62.1), ((.int .u64 r62.2 : AV) = .int .u64 r62.2), ((.int .u64 o6 : AV) = .int .u64 o6), (Ret Tryd.prog G0 19 [.int .u64 r62.1, .int .u64 r62.2, .int .u64 o6] (.tup [.int .u64 r65.1, .int .u64 r65.2]) []), (IntKind.min .i64 ≤ r65.1 ∧ r65.1 ≤ IntKind.max .i64), ((↑k60 : Int) = ((k60 : Nat) : Int) ∧ k60 < b0.length), (k60 + 1 ≤ List.length ((fl e_i64 b0) : List AV)), (setL (fl e_i64 b0) k60 [.int .i64 r65.1] = (fl e_i64 (List.set b0 k60 r65.1))), ((↑k60 : Int) = ((k60 : Nat) : Int) ∧ k60 < b1.length), (k60 + 1 ≤ List.length ((fl e_u64 b1) : List AV)), (setL (fl e_u64 b1) k60 [.int .u64 r65.2] = (fl e_u64 (List.set b1 k60 r65.2))), (IntKind.min .i64 ≤ ((↑k60 : Int) + 1) ∧ ((↑k60 : Int) + 1) ≤ IntKind.max .i64)]) (by kernel_rfl) (by kernel_rfl) ⟨(decide_eq_true c57), ⟨rfl, get_lt h59⟩, (fl_ne (f := e_i64) (z := 0) (fun _ => rfl) h59), (fl_sub1 (f := e_i64) (fun _ => rfl) h59 rfl), h60, h61, rfl, rfl, (math_bits_Mul64_ret amount_0 x58 r62 h63), h64, rfl, rfl, rfl, (math_bits_Div64_ret r62.1 r62.2 o6 r65 h66), h67, ⟨rfl, get_lt h69⟩, (fl_room1 (fun _ => rfl) (get_lt h69)), (fl_set1 (f := e_i64) (fun _ => rfl) (get_lt h69) rfl), ⟨rfl, get_lt h71⟩, (fl_room1 (fun _ => rfl) (get_lt h71)), (fl_set1 (f := e_u64) (fun _ => rfl) (get_lt h71) rfl), ok1 h72⟩
theorem money_Split_L25_1 (amount_0 : Int) (weights_1 : (List Int)) (o6 : Int) (k60 : Nat) (b0 : (List Int)) (b1 : (List Int)) (c57 : ¬ ((↑k60 : Int) < (↑weights_1.length : Int))) : Does Tryd.prog G0 2 (bodyAt Tryd.prog 9 [1, 1, 1, 1, 1, 1, 1, 1, 0, 1, 0, 0]) (money_Split_L25_H amount_0 weights_1 o6 (k60, b0, b1)) (.exit 2) (S 138 [(0, .int .i64 amount_0), (1, .lst (fl e_i64 weights_1) weights_1.length), (9, .vec 0 b0.length 1), (10, .vec 1 b1.length 1)] [{ c := (fl e_i64 b0), e := 3, ext := true, fz := 0, pl := true, o := true }, { c := (fl e_u64 b1), e := 43, ext := true, fz := 0, pl := true, o := true }]) :=
  Does.of_viewM 2 400 [.op none .a, .br false] [0, 1] (ps := [((decide ((↑k60 : Int) < (↑weights_1.length : Int))) = false)]) (by kernel_rfl) (by kernel_rfl) (ok1 (decide_eq_false c57))
def money_Split_L25_X (amount_0 : Int) (weights_1 : (List Int)) (o6 : Int) : ((List Int) × (List Int)) → AEx := fun o => (.exit 2)
def money_Split_L25_E (amount_0 : Int) (weights_1 : (List Int)) (o6 : Int) : ((List Int) × (List Int)) → St := fun o => S 138 [(0, .int .i64 amount_0), (1, .lst (fl e_i64 weights_1) weights_1.length), (9, .vec 0 o.1.length 1), (10, .vec 1 o.2.length 1)] [{ c := (fl e_i64 o.1), e := 3, ext := true, fz := 0, pl := true, o := true }, { c := (fl e_u64 o.2), e := 43, ext := true, fz := 0, pl := true, o := true }]
theorem money_Split_L25_does (amount_0 : Int) (weights_1 : (List Int)) (o6 : Int) {s : (Nat × (List Int) × (List Int))} {r : ((List Int) × (List Int))} (h : lp (money_Split_L25_step amount_0 weights_1 o6) s = some r) : Does Tryd.prog G0 2 (.loop (bodyAt Tryd.prog 9 [1, 1, 1, 1, 1, 1, 1, 1, 0, 1, 0, 0])) (money_Split_L25_H amount_0 weights_1 o6 s) (money_Split_L25_X amount_0 weights_1 o6 r) (money_Split_L25_E amount_0 weights_1 o6 r) := by
  refine Does.lp (H := money_Split_L25_H amount_0 weights_1 o6) (X := money_Split_L25_X amount_0 weights_1 o6) (E := money_Split_L25_E amount_0 weights_1 o6) (fun s s2 h => ?_) (fun s r h => ?_) h
  · obtain ⟨k60, b0, b1⟩ := s
    unfold money_Split_L25_step at h
    try dsimp only at h
    rcases ite_some h with ⟨c57, h⟩ | ⟨c57, h⟩
    · obtain ⟨x58, h59, h⟩ := bind_some h
      obtain ⟨h60, h⟩ := guard_some h
      obtain ⟨h61, h⟩ := guard_some h
      obtain ⟨r62, h63, h⟩ := bind_some h
      obtain ⟨h64, h⟩ := guard_some h
      obtain ⟨r65, h66, h⟩ := bind_some h
      obtain ⟨h67, h⟩ := guard_some h
      obtain ⟨x68, h69, h⟩ := bind_some h
      obtain ⟨x70, h71, h⟩ := bind_some h
      obtain ⟨h72, h⟩ := guard_some h
      simp only [Option.some.injEq, Sum.inl.injEq] at h
      subst h
      have hq := money_Split_L25_0 amount_0 weights_1 o6 k60 b0 b1 c57 x58 h59 h60 h61 r62 h63 h64 r65 h66 h67 x68 h69 x70 h71 h72
      first | exact hq | exact Eq.mp (by simp only [money_Split_L25_H, List.length_set] <;> rfl) hq
    · simp at h
  · obtain ⟨k60, b0, b1⟩ := s
    unfold money_Split_L25_step at h
    try dsimp only at h
    rcases ite_some h with ⟨c57, h⟩ | ⟨c57, h⟩
    · obtain ⟨x58, h59, h⟩ := bind_some h
      obtain ⟨h60, h⟩ := guard_some h
      obtain ⟨h61, h⟩ := guard_some h
      obtain ⟨r62, h63, h⟩ := bind_some h
      obtain ⟨h64, h⟩ := guard_some h
      obtain ⟨r65, h66, h⟩ := bind_some h
      obtain ⟨h67, h⟩ := guard_some h
      obtain ⟨x68, h69, h⟩ := bind_some h
      obtain ⟨x70, h71, h⟩ := bind_some h
      obtain ⟨h72, h⟩ := guard_some h
      simp at h
    · simp only [Option.some.injEq, Sum.inr.injEq] at h
      subst h
      exact ⟨money_Split_L25_1 amount_0 weights_1 o6 k60 b0 b1 c57, by intro q; cases q⟩
noncomputable def money_Split_L159_step (o25 : ((List Int) × (List Int))) (v18 : Int) (b0 : (List Int)) (b4 : (List Bool)) : (Int × Nat) → Option ((Int × Nat) ⊕ Int)
  | (v19, k104) =>
    if (↑k104 : Int) < (↑o25.2.length : Int) then
      (o25.2[k104]?).bind fun x176 =>
      (b4[k104]?).bind fun x178 =>
      if x178 = true then
        if InR .i64 ((↑k104 : Int) + 1) then
          some (Sum.inl (v19, (k104 + 1)))
        else none
      else
        if v19 < (0 : Int) then
          if InR .i64 ((↑k104 : Int) + 1) then
            some (Sum.inl ((↑k104 : Int), (k104 + 1)))
          else none
        else
          if (0 : Int) ≤ v19 then
            (o25.2[(Int.toNat v19)]?).bind fun x185 =>
            if x176 > x185 then
              if InR .i64 ((↑k104 : Int) + 1) then
                some (Sum.inl ((↑k104 : Int), (k104 + 1)))
              else none
            else
              if InR .i64 ((↑k104 : Int) + 1) then
                some (Sum.inl (v19, (k104 + 1)))
              else none
          else none
    else
      some (Sum.inr v19)
def money_Split_L159_H (o25 : ((List Int) × (List Int))) (v18 : Int) (b0 : (List Int)) (b4 : (List Bool)) : (Int × Nat) → St := fun (s : (Int × Nat)) => S 138 [(9, .vec 0 b0.length 1), (10, .vec 1 o25.2.length 1), (17, .vec 2 b4.length 1), (18, .int .i64 v18), (19, .int .i64 s.1), (102, .vec 1 o25.2.length 1), (103, .int .i64 (↑o25.2.length : Int)), (104, .int .i64 (↑s.2 : Int))] [{ c := (fl e_i64 b0), e := 3, ext := true, fz := 0, pl := true, o := true }, { c := (fl e_u64 o25.2), e := 43, ext := true, fz := 0, pl := true, o := true }, { c := (fl e_bool b4), e := 4, ext := true, fz := 0, pl := true, o := true }]
theorem money_Split_L159_0 (o25 : ((List Int) × (List Int))) (v18 : Int) (b0 : (List Int)) (b4 : (List Bool)) (v19 : Int) (k104 : Nat) (c175 : (↑k104 : Int) < (↑o25.2.length : Int)) (x176 : Int) (h177 : o25.2[k104]? = some x176) (x178 : Bool) (h179 : b4[k104]? = some x178) (c180 : x178 = true) (h181 : InR .i64 ((↑k104 : Int) + 1)) : Does Tryd.prog G0 3 (bodyAt Tryd.prog 9 [1, 1, 1, 1, 1, 1, 1, 1, 1, 1, 0, 1, 0, 0, 1, 0, 0, 1, 0, 1, 0, 0]) (money_Split_L159_H o25 v18 b0 b4 (v19, k104)) .normal (S 138 [(9, .vec 0 b0.length 1), (10, .vec 1 o25.2.length 1), (17, .vec 2 b4.length 1), (18, .int .i64 v18), (19, .int .i64 v19), (102, .vec 1 o25.2.length 1), (103, .int .i64 (↑o25.2.length : Int)), (104, .int .i64 ((↑k104 : Int) + 1))] [{ c := (fl e_i64 b0), e := 3, ext := true, fz := 0, pl := true, o := true }, { c := (fl e_u64 o25.2), e := 43, ext := true, fz := 0, pl := true, o := true }, { c := (fl e_bool b4), e := 4, ext := true, fz := 0, pl := true, o := true }]) :=
  Does.of_viewM 3 400 ((.op none .a) :: (.br true) :: (.op none .c) :: (.op none (.i k104)) :: (.op none (.v [.int .u64 x176])) :: (cs 4 ((.op none (.i k104)) :: (.op none (.v [.bool x178])) :: (cs 2 ((.op (some false) .c) :: (cs 10 [.br false, .op none .w, .op none .c])))))) [0, 1, 2] (ps := [((decide ((↑k104 : Int) < (↑o25.2.length : Int))) = true), ((↑k104 : Int) = ((k104 : Nat) : Int) ∧ k104 < o25.2.length), (sub (fl e_u64 o25.2) k104 1 = [.int .u64 x176]), ((↑k104 : Int) = ((k104 : Nat) : Int) ∧ k104 < b4.length), (sub (fl e_bool b4) k104 1 = [.bool x178]), ((!x178) = false), (false = false), (IntKind.min .i64 ≤ ((↑k104 : Int) + 1) ∧ ((↑k104 : Int) + 1) ≤ IntKind.max .i64)]) (by kernel_rfl) (by kernel_rfl) ⟨(decide_eq_true c175), ⟨rfl, get_lt h177⟩, (fl_sub1 (f := e_u64) (fun _ => rfl) h177 rfl), ⟨rfl, get_lt h179⟩, (fl_sub1 (f := e_bool) (fun _ => rfl) h179 rfl), (not_f c180), rfl, ok1 h181⟩
theorem money_Split_L159_1 (o25 : ((List Int) × (List Int))) (v18 : Int) (b0 : (List Int)) (b4 : (List Bool)) (v19 : Int) (k104 : Nat) (c175 : (↑k104 : Int) < (↑o25.2.length : Int)) (x176 : Int) (h177 : o25.2[k104]? = some x176) (x178 : Bool) (h179 : b4[k104]? = some x178) (c180 : ¬ (x178 = true)) (c182 : v19 < (0 : Int)) (h183 : InR .i64 ((↑k104 : Int) + 1)) : Does Tryd.prog G0 3 (bodyAt Tryd.prog 9 [1, 1, 1, 1, 1, 1, 1, 1, 1, 1, 0, 1, 0, 0, 1, 0, 0, 1, 0, 1, 0, 0]) (money_Split_L159_H o25 v18 b0 b4 (v19, k104)) .normal (S 138 [(9, .vec 0 b0.length 1), (10, .vec 1 o25.2.length 1), (17, .vec 2 b4.length 1), (18, .int .i64 v18), (19, .int .i64 (↑k104 : Int)), (102, .vec 1 o25.2.length 1), (103, .int .i64 (↑o25.2.length : Int)), (104, .int .i64 ((↑k104 : Int) + 1))] [{ c := (fl e_i64 b0), e := 3, ext := true, fz := 0, pl := true, o := true }, { c := (fl e_u64 o25.2), e := 43, ext := true, fz := 0, pl := true, o := true }, { c := (fl e_bool b4), e := 4, ext := true, fz := 0, pl := true, o := true }]) :=
  Does.of_viewM 3 400 ((.op none .a) :: (.br true) :: (.op none .c) :: (.op none (.i k104)) :: (.op none (.v [.int .u64 x176])) :: (cs 4 ((.op none (.i k104)) :: (.op none (.v [.bool x178])) :: (cs 2 ((.op (some true) .c) :: (.op none .a) :: (.op none .c) :: (.op (some true) .c) :: (cs 7 ((.br true) :: (cs 2 [.op none .w, .op none .c])))))))) [0, 1, 2] (ps := [((decide ((↑k104 : Int) < (↑o25.2.length : Int))) = true), ((↑k104 : Int) = ((k104 : Nat) : Int) ∧ k104 < o25.2.length), (sub (fl e_u64 o25.2) k104 1 = [.int .u64 x176]), ((↑k104 : Int) = ((k104 : Nat) : Int) ∧ k104 < b4.length), (sub (fl e_bool b4) k104 1 = [.bool x178]), ((!x178) = true), ((decide (v19 < (0 : Int))) = true), (true = true), (IntKind.min .i64 ≤ ((↑k104 : Int) + 1) ∧ ((↑k104 : Int) + 1) ≤ IntKind.max .i64)]) (by kernel_rfl) (by kernel_rfl) ⟨(decide_eq_true c175), ⟨rfl, get_lt h177⟩, (fl_sub1 (f := e_u64) (fun _ => rfl) h177 rfl), ⟨rfl, get_lt h179⟩, (fl_sub1 (f := e_bool) (fun _ => rfl) h179 rfl), (not_t (eq_false_of_ne_true c180)), (decide_eq_true c182), rfl, ok1 h183⟩
theorem money_Split_L159_2 (o25 : ((List Int) × (List Int))) (v18 : Int) (b0 : (List Int)) (b4 : (List Bool)) (v19 : Int) (k104 : Nat) (c175 : (↑k104 : Int) < (↑o25.2.length : Int)) (x176 : Int) (h177 : o25.2[k104]? = some x176) (x178 : Bool) (h179 : b4[k104]? = some x178) (c180 : ¬ (x178 = true)) (c182 : ¬ (v19 < (0 : Int))) (h184 : (0 : Int) ≤ v19) (x185 : Int) (h186 : o25.2[(Int.toNat v19)]? = some x185) (c187 : x176 > x185) (h188 : InR .i64 ((↑k104 : Int) + 1)) : Does Tryd.prog G0 3 (bodyAt Tryd.prog 9 [1, 1, 1, 1, 1, 1, 1, 1, 1, 1, 0, 1, 0, 0, 1, 0, 0, 1, 0, 1, 0, 0]) (money_Split_L159_H o25 v18 b0 b4 (v19, k104)) .normal (S 138 [(9, .vec 0 b0.length 1), (10, .vec 1 o25.2.length 1), (17, .vec 2 b4.length 1), (18, .int .i64 v18), (19, .int .i64 (↑k104 : Int)), (102, .vec 1 o25.2.length 1), (103, .int .i64 (↑o25.2.length : Int)), (104, .int .i64 ((↑k104 : Int) + 1))] [{ c := (fl e_i64 b0), e := 3, ext := true, fz := 0, pl := true, o := true }, { c := (fl e_u64 o25.2), e := 43, ext := true, fz := 0, pl := true, o := true }, { c := (fl e_bool b4), e := 4, ext := true, fz := 0, pl := true, o := true }]) :=
  Does.of_viewM 3 400 ((.op none .a) :: (.br true) :: (.op none .c) :: (.op none (.i k104)) :: (.op none (.v [.int .u64 x176])) :: (cs 4 ((.op none (.i k104)) :: (.op none (.v [.bool x178])) :: (cs 2 ((.op (some true) .c) :: (.op none .a) :: (.op none .c) :: (.op (some false) .c) :: (cs 2 ((.op none (.i (Int.toNat v19))) :: (.op none (.v [.int .u64 x185])) :: (.op none .a) :: (cs 2 ((.br true) :: (cs 2 [.op none .w, .op none .c])))))))))) [0, 1, 2] (ps := [((decide ((↑k104 : Int) < (↑o25.2.length : Int))) = true), ((↑k104 : Int) = ((k104 : Nat) : Int) ∧ k104 < o25.2.length), (sub (fl e_u64 o25.2) k104 1 = [.int .u64 x176]), ((↑k104 : Int) = ((k104 : Nat) : Int) ∧ k104 < b4.length), (sub (fl e_bool b4) k104 1 = [.bool x178]), ((!x178) = true), ((decide (v19 < (0 : Int))) = false), (v19 = (((Int.toNat v19) : Nat) : Int) ∧ (Int.toNat v19) < o25.2.length), (sub (fl e_u64 o25.2) (Int.toNat v19) 1 = [.int .u64 x185]), ((decide (x176 > x185)) = true), (IntKind.min .i64 ≤ ((↑k104 : Int) + 1) ∧ ((↑k104 : Int) + 1) ≤ IntKind.max .i64)]) (by kernel_rfl) (by kernel_rfl) ⟨(decide_eq_true c175), ⟨rfl, get_lt h177⟩, (fl_sub1 (f := e_u64) (fun _ => rfl) h177 rfl), ⟨rfl, get_lt h179⟩, (fl_sub1 (f := e_bool) (fun _ => rfl) h179 rfl), (not_t (eq_false_of_ne_true c180)), (decide_eq_false c182), ⟨(Int.toNat_of_nonneg h184).symm, get_lt h186⟩, (fl_sub1 (f := e_u64) (fun _ => rfl) h186 rfl), (decide_eq_true c187), ok1 h188⟩
theorem money_Split_L159_3 (o25 : ((List Int) × (List Int))) (v18 : Int) (b0 : (List Int)) (b4 : (List Bool)) (v19 : Int) (k104 : Nat) (c175 : (↑k104 : Int) < (↑o25.2.length : Int)) (x176 : Int) (h177 : o25.2[k104]? = some x176) (x178 : Bool) (h179 : b4[k104]? = some x178) (c180 : ¬ (x178 = true)) (c182 : ¬ (v19 < (0 : Int))) (h184 : (0 : Int) ≤ v19) (x185 : Int) (h186 : o25.2[(Int.toNat v19)]? = some x185) (c187 : ¬ (x176 > x185)) (h189 : InR .i64 ((↑k104 : Int) + 1)) : Does Tryd.prog G0 3 (bodyAt Tryd.prog 9 [1, 1, 1, 1, 1, 1, 1, 1, 1, 1, 0, 1, 0, 0, 1, 0, 0, 1, 0, 1, 0, 0]) (money_Split_L159_H o25 v18 b0 b4 (v19, k104)) .normal (S 138 [(9, .vec 0 b0.length 1), (10, .vec 1 o25.2.length 1), (17, .vec 2 b4.length 1), (18, .int .i64 v18), (19, .int .i64 v19), (102, .vec 1 o25.2.length 1), (103, .int .i64 (↑o25.2.length : Int)), (104, .int .i64 ((↑k104 : Int) + 1))] [{ c := (fl e_i64 b0), e := 3, ext := true, fz := 0, pl := true, o := true }, { c := (fl e_u64 o25.2), e := 43, ext := true, fz := 0, pl := true, o := true }, { c := (fl e_bool b4), e := 4, ext := true, fz := 0, pl := true, o := true }]) :=
  Does.of_viewM 3 400 ((.op none .a) :: (.br true) :: (.op none .c) :: (.op none (.i k104)) :: (.op none (.v [.int .u64 x176])) :: (cs 4 ((.op none (.i k104)) :: (.op none (.v [.bool x178])) :: (cs 2 ((.op (some true) .c) :: (.op none .a) :: (.op none .c) :: (.op (some false) .c) :: (cs 2 ((.op none (.i (Int.toNat v19))) :: (.op none (.v [.int .u64 x185])) :: (.op none .a) :: (cs 2 [.br false, .op none .w, .op none .c])))))))) [0, 1, 2] (ps := [((decide ((↑k104 : Int) < (↑o25.2.length : Int))) = true), ((↑k104 : Int) = ((k104 : Nat) : Int) ∧ k104 < o25.2.length), (sub (fl e_u64 o25.2) k104 1 = [.int .u64 x176]), ((↑k104 : Int) = ((k104 : Nat) : Int) ∧ k104 < b4.length), (sub (fl e_bool b4) k104 1 = [.bool x178]), ((!x178) = true), ((decide (v19 < (0 : Int))) = false), (v19 = (((Int.toNat v19) : Nat) : Int) ∧ (Int.toNat v19) < o25.2.length), (sub (fl e_u64 o25.2) (Int.toNat v19) 1 = [.int .u64 x185]), ((decide (x176 > x185)) = false), (IntKind.min .i64 ≤ ((↑k104 : Int) + 1) ∧ ((↑k104 : Int) + 1) ≤ IntKind.max .i64)]) (by kernel_rfl) (by kernel_rfl) ⟨(decide_eq_true c175), ⟨rfl, get_lt h177⟩, (fl_sub1 (f := e_u64) (fun _ => rfl) h177 rfl), ⟨rfl, get_lt h179⟩, (fl_sub1 (f := e_bool) (fun _ => rfl) h179 rfl), (not_t (eq_false_of_ne_true c180)), (decide_eq_false c182), ⟨(Int.toNat_of_nonneg h184).symm, get_lt h186⟩, (fl_sub1 (f := e_u64) (fun _ => rfl) h186 rfl), (decide_eq_false c187), ok1 h189⟩
theorem money_Split_L159_4 (o25 : ((List Int) × (List Int))) (v18 : Int) (b0 : (List Int)) (b4 : (List Bool)) (v19 : Int) (k104 : Nat) (c175 : ¬ ((↑k104 : Int) < (↑o25.2.length : Int))) : Does Tryd.prog G0 3 (bodyAt Tryd.prog 9 [1, 1, 1, 1, 1, 1, 1, 1, 1, 1, 0, 1, 0, 0, 1, 0, 0, 1, 0, 1, 0, 0]) (money_Split_L159_H o25 v18 b0 b4 (v19, k104)) (.exit 6) (S 138 [(9, .vec 0 b0.length 1), (10, .vec 1 o25.2.length 1), (17, .vec 2 b4.length 1), (18, .int .i64 v18), (19, .int .i64 v19)] [{ c := (fl e_i64 b0), e := 3, ext := true, fz := 0, pl := true, o := true }, { c := (fl e_u64 o25.2), e := 43, ext := true, fz := 0, pl := true, o := true }, { c := (fl e_bool b4), e := 4, ext := true, fz := 0, pl := true, o := true }]) :=
  Does.of_viewM 3 400 [.op none .a, .br false] [0, 1, 2] (ps := [((decide ((↑k104 : Int) < (↑o25.2.length : Int))) = false)]) (by kernel_rfl) (by kernel_rfl) (ok1 (decide_eq_false c175))
def money_Split_L159_X (o25 : ((List Int) × (List Int))) (v18 : Int) (b0 : (List Int)) (b4 : (List Bool)) : Int → AEx := fun o => (.exit 6)
def money_Split_L159_E (o25 : ((List Int) × (List Int))) (v18 : Int) (b0 : (List Int)) (b4 : (List Bool)) : Int → St := fun o => S 138 [(9, .vec 0 b0.length 1), (10, .vec 1 o25.2.length 1), (17, .vec 2 b4.length 1), (18, .int .i64 v18), (19, .int .i64 o)] [{ c := (fl e_i64 b0), e := 3, ext := true, fz := 0, pl := true, o := true }, { c := (fl e_u64 o25.2), e := 43, ext := true, fz := 0, pl := true, o := true }, { c := (fl e_bool b4), e := 4, ext := true, fz := 0, pl := true, o := true }]
theorem money_Split_L159_does (o25 : ((List Int) × (List Int))) (v18 : Int) (b0 : (List Int)) (b4 : (List Bool)) {s : (Int × Nat)} {r : Int} (h : lp (money_Split_L159_step o25 v18 b0 b4) s = some r) : Does Tryd.prog G0 3 (.loop (bodyAt Tryd.prog 9 [1, 1, 1, 1, 1, 1, 1, 1, 1, 1, 0, 1, 0, 0, 1, 0, 0, 1, 0, 1, 0, 0])) (money_Split_L159_H o25 v18 b0 b4 s) (money_Split_L159_X o25 v18 b0 b4 r) (money_Split_L159_E o25 v18 b0 b4 r) := by
  refine Does.lp (H := money_Split_L159_H o25 v18 b0 b4) (X := money_Split_L159_X o25 v18 b0 b4) (E := money_Split_L159_E o25 v18 b0 b4) (fun s s2 h => ?_) (fun s r h => ?_) h
  · obtain ⟨v19, k104⟩ := s
    unfold money_Split_L159_step at h
    try dsimp only at h
    rcases ite_some h with ⟨c175, h⟩ | ⟨c175, h⟩
    · obtain ⟨x176, h177, h⟩ := bind_some h
      obtain ⟨x178, h179, h⟩ := bind_some h
      rcases ite_some h with ⟨c180, h⟩ | ⟨c180, h⟩
      · obtain ⟨h181, h⟩ := guard_some h
        simp only [Option.some.injEq, Sum.inl.injEq] at h
        subst h
        have hq := money_Split_L159_0 o25 v18 b0 b4 v19 k104 c175 x176 h177 x178 h179 c180 h181
        first | exact hq | exact Eq.mp (by simp only [money_Split_L159_H, List.length_set] <;> rfl) hq
      · rcases ite_some h with ⟨c182, h⟩ | ⟨c182, h⟩
        · obtain ⟨h183, h⟩ := guard_some h
          simp only [Option.some.injEq, Sum.inl.injEq] at h
          subst h
          have hq := money_Split_L159_1 o25 v18 b0 b4 v19 k104 c175 x176 h177 x178 h179 c180 c182 h183
          first | exact hq | exact Eq.mp (by simp only [money_Split_L159_H, List.length_set] <;> rfl) hq
        · obtain ⟨h184, h⟩ := guard_some h
          obtain ⟨x185, h186, h⟩ := bind_some h
          rcases ite_some h with ⟨c187, h⟩ | ⟨c187, h⟩
          · obtain ⟨h188, h⟩ := guard_some h
            simp only [Option.some.injEq, Sum.inl.injEq] at h
            subst h
            have hq := money_Split_L159_2 o25 v18 b0 b4 v19 k104 c175 x176 h177 x178 h179 c180 c182 h184 x185 h186 c187 h188
            first | exact hq | exact Eq.mp (by simp only [money_Split_L159_H, List.length_set] <;> rfl) hq
          · obtain ⟨h189, h⟩ := guard_some h
            simp only [Option.some.injEq, Sum.inl.injEq] at h
            subst h
            have hq := money_Split_L159_3 o25 v18 b0 b4 v19 k104 c175 x176 h177 x178 h179 c180 c182 h184 x185 h186 c187 h189
            first | exact hq | exact Eq.mp (by simp only [money_Split_L159_H, List.length_set] <;> rfl) hq
    · simp at h
  · obtain ⟨v19, k104⟩ := s
    unfold money_Split_L159_step at h
    try dsimp only at h
    rcases ite_some h with ⟨c175, h⟩ | ⟨c175, h⟩
    · obtain ⟨x176, h177, h⟩ := bind_some h
      obtain ⟨x178, h179, h⟩ := bind_some h
      rcases ite_some h with ⟨c180, h⟩ | ⟨c180, h⟩
      · obtain ⟨h181, h⟩ := guard_some h
        simp at h
      · rcases ite_some h with ⟨c182, h⟩ | ⟨c182, h⟩
        · obtain ⟨h183, h⟩ := guard_some h
          simp at h
        · obtain ⟨h184, h⟩ := guard_some h
          obtain ⟨x185, h186, h⟩ := bind_some h
          rcases ite_some h with ⟨c187, h⟩ | ⟨c187, h⟩
          · obtain ⟨h188, h⟩ := guard_some h
            simp at h
          · obtain ⟨h189, h⟩ := guard_some h
            simp at h
    · simp only [Option.some.injEq, Sum.inr.injEq] at h
      subst h
      exact ⟨money_Split_L159_4 o25 v18 b0 b4 v19 k104 c175, by intro q; cases q⟩
noncomputable def money_Split_L76_step (o25 : ((List Int) × (List Int))) : (Int × (List Int) × (List Bool)) → Option ((Int × (List Int) × (List Bool)) ⊕ ((List Int) × (List Bool)))
  | (v18, b0, b4) =>
    if v18 > (0 : Int) then
      (lp (money_Split_L159_step o25 v18 b0 b4) (((-1) : Int), (0 : Nat))).bind fun o159 =>
      if (0 : Int) ≤ o159 then
        (b0[(Int.toNat o159)]?).bind fun x191 =>
        if InR .i64 (x191 + 1) then
          (b4[(Int.toNat o159)]?).bind fun x194 =>
          if InR .i64 (v18 - 1) then
            some (Sum.inl ((v18 - 1), (List.set b0 (Int.toNat o159) (x191 + 1)), (List.set b4 (Int.toNat o159) true)))
          else none
        else none
      else none
    else
      some (Sum.inr (b0, b4))
def money_Split_L76_H (o25 : ((List Int) × (List Int))) : (Int × (List Int) × (List Bool)) → St := fun (s : (Int × (List Int) × (List Bool))) => S 138 [(9, .vec 0 s.2.1.length 1), (10, .vec 1 o25.2.length 1), (17, .vec 2 s.2.2.length 1), (18, .int .i64 s.1)] [{ c := (fl e_i64 s.2.1), e := 3, ext := true, fz := 0, pl := true, o := true }, { c := (fl e_u64 o25.2), e := 43, ext := true, fz := 0, pl := true, o := true }, { c := (fl e_bool s.2.2), e := 4, ext := true, fz := 0, pl := true, o := true }]
theorem money_Split_L76_0 (o25 : ((List Int) × (List Int))) (v18 : Int) (b0 : (List Int)) (b4 : (List Bool)) (c158 : v18 > (0 : Int)) (o159 : Int) (hl159 : lp (money_Split_L159_step o25 v18 b0 b4) (((-1) : Int), (0 : Nat)) = some o159) (h190 : (0 : Int) ≤ o159) (x191 : Int) (h192 : b0[(Int.toNat o159)]? = some x191) (h193 : InR .i64 (x191 + 1)) (x194 : Bool) (h195 : b4[(Int.toNat o159)]? = some x194) (h196 : InR .i64 (v18 - 1)) : Does Tryd.prog G0 3 (bodyAt Tryd.prog 9 [1, 1, 1, 1, 1, 1, 1, 1, 1, 1, 0, 1, 0, 0]) (money_Split_L76_H o25 (v18, b0, b4)) .normal (S 138 [(9, .vec 0 b0.length 1), (10, .vec 1 o25.2.length 1), (17, .vec 2 b4.length 1), (18, .int .i64 (v18 - 1))] [{ c := (fl e_i64 (List.set b0 (Int.toNat o159) (x191 + 1))), e := 3, ext := true, fz := 0, pl := true, o := true }, { c := (fl e_u64 o25.2), e := 43, ext := true, fz := 0, pl := true, o := true }, { c := (fl e_bool (List.set b4 (Int.toNat o159) true)), e := 4, ext := true, fz := 0, pl := true, o := true }]) :=
  Does.of_viewM 3 400 ((.op none .c) :: (.op none .a) :: (.br true) :: (cs 4 ((.fcut 3 (.exit 6) [(9, .vec 0 b0.length 1), (10, .vec 1 o25.2.length 1), (17, .vec 2 b4.length 1), (18, .int .i64 v18), (19, .int .i64 o159)] [{ c := (fl e_i64 b0), e := 3, ext := true, fz := 0, pl := true, o := true }, { c := (fl e_u64 o25.2), e := 43, ext := true, fz := 0, pl := true, o := true }, { c := (fl e_bool b4), e := 4, ext := true, fz := 0, pl := true, o := true }] [0, 1, 2] [(9, .vec 0 b0.length 1), (10, .vec 1 o25.2.length 1), (17, .vec 2 b4.length 1), (18, .int .i64 v18), (19, .int .i64 ((-1) : Int)), (102, .vec 1 o25.2.length 1), (103, .int .i64 (↑o25.2.length : Int)), (104, .int .i64 (↑(0 : Nat) : Int))] [{ c := (fl e_i64 b0), e := 3, ext := true, fz := 0, pl := true, o := true }, { c := (fl e_u64 o25.2), e := 43, ext := true, fz := 0, pl := true, o := true }, { c := (fl e_bool b4), e := 4, ext := true, fz := 0, pl := true, o := true }]) :: (cs 2 ((.op none (.i (Int.toNat o159))) :: (.op none (.v [.int .i64 x191])) :: (.op none .w) :: (.op none (.i (Int.toNat o159))) :: (.op none .a) :: (.tr (.eqc 0 (fl e_i64 (List.set b0 (Int.toNat o159) (x191 + 1))))) :: (cs 2 [.op none (.i (Int.toNat o159)), .op none .a, .tr (.eqc 2 (fl e_bool (List.set b4 (Int.toNat o159) true))), .op none .c, .op none .w, .op none .c])))))) [0, 1, 2] (ps := [((decide (v18 > (0 : Int))) = true), ((.vec 0 b0.length 1 : AV) = .vec 0 b0.length 1), ((.vec 1 o25.2.length 1 : AV) = .vec 1 o25.2.length 1), ((.vec 2 b4.length 1 : AV) = .vec 2 b4.length 1), ((.int .i64 v18 : AV) = .int .i64 v18), ((.int .i64 (-1) : AV) = .int .i64 ((-1) : Int)), ((.vec 1 o25.2.length 1 : AV) = .vec 1 o25.2.length 1), ((.int .i64 (↑o25.2.length : Int) : AV) = .int .i64 (↑o25.2.length : Int)), ((.int .i64 0 : AV) = .int .i64 (↑(0 : Nat) : Int)), (({ c := (fl e_i64 b0), e := 3, ext := true, fz := 0, pl := true, o := true } : Blk) = renB [0, 1, 2] { c := (fl e_i64 b0), e := 3, ext := true, fz := 0, pl := true, o := true }), (({ c := (fl e_u64 o25.2), e := 43, ext := true, fz := 0, pl := true, o := true } : Blk) = renB [0, 1, 2] { c := (fl e_u64 o25.2), e := 43, ext := true, fz := 0, pl := true, o := true }), (({ c := (fl e_bool b4), e := 4, ext := true, fz := 0, pl := true, o := true } : Blk) = renB [0, 1, 2] { c := (fl e_bool b4), e := 4, ext := true, fz := 0, pl := true, o := true }), (Does Tryd.prog G0 3 (.loop (bodyAt Tryd.prog 9 [1, 1, 1, 1, 1, 1, 1, 1, 1, 1, 0, 1, 0, 0, 1, 0, 0, 1, 0, 1, 0, 0])) (S 138 [(9, .vec 0 b0.length 1), (10, .vec 1 o25.2.length 1), (17, .vec 2 b4.length 1), (18, .int .i64 v18), (19, .int .i64 ((-1) : Int)), (102, .vec 1 o25.2.length 1), (103, .int .i64 (↑o25.2.length : Int)), (104, .int .i64 (↑(0 : Nat) : Int))] [{ c := (fl e_i64 b0), e := 3, ext := true, fz := 0, pl := true, o := true }, { c := (fl e_u64 o25.2), e := 43, ext := true, fz := 0, pl := true, o := true }, { c := (fl e_bool b4), e := 4, ext := true, fz := 0, pl := true, o := true }]) (.exit 6) (S 138 [(9, .vec 0 b0.length 1), (10, .vec 1 o25.2.length 1), (17, .vec 2 b4.length 1), (18, .int .i64 v18), (19, .int .i64 o159)] [{ c := (fl e_i64 b0), e := 3, ext := true, fz := 0, pl := true, o := true }, { c := (fl e_u64 o25.2), e := 43, ext := true, fz := 0, pl := true, o := true }, { c := (fl e_bool b4), e := 4, ext := true, fz := 0, pl := true, o := true }])), (o159 = (((Int.toNat o159) : Nat) : Int) ∧ (Int.toNat o159) < b0.length), (sub (fl e_i64 b0) (Int.toNat o159) 1 = [.int .i64 x191]), (IntKind.min .i64 ≤ (x191 + 1) ∧ (x191 + 1) ≤ IntKind.max .i64), (o159 = (((Int.toNat o159) : Nat) : Int) ∧ (Int.toNat o159) < b0.length), ((Int.toNat o159) + 1 ≤ List.length ((fl e_i64 b0) : List AV)), (setL (fl e_i64 b0) (Int.toNat o159) [.int .i64 (x191 + 1)] = (fl e_i64 (List.set b0 (Int.toNat o159) (x191 + 1)))), (o159 = (((Int.toNat o159) : Nat) : Int) ∧ (Int.toNat o159) < b4.length), ((Int.toNat o159) + 1 ≤ List.length ((fl e_bool b4) : List AV)), (setL (fl e_bool b4) (Int.toNat o159) [.bool true] = (fl e_bool (List.set b4 (Int.toNat o159) true))), (IntKind.min .i64 ≤ (v18 - 1) ∧ (v18 - 1) ≤ IntKind.max .i64)]) (by kernel_rfl) (by kernel_rfl) ⟨(decide_eq_true c158), rfl, rfl, rfl, rfl, rfl, rfl, rfl, rfl, rfl, rfl, rfl, (money_Split_L159_does o25 v18 b0 b4 hl159), ⟨(Int.toNat_of_nonneg h190).symm, get_lt h192⟩, (fl_sub1 (f := e_i64) (fun _ => rfl) h192 rfl), h193, ⟨(Int.toNat_of_nonneg h190).symm, get_lt h192⟩, (fl_room1 (fun _ => rfl) (get_lt h192)), (fl_set1 (f := e_i64) (fun _ => rfl) (get_lt h192) rfl), ⟨(Int.toNat_of_nonneg h190).symm, get_lt h195⟩, (fl_room1 (fun _ => rfl) (get_lt h195)), (fl_set1 (f := e_bool) (fun _ => rfl) (get_lt h195) rfl), ok1 h196⟩
theorem money_Split_L76_1 (o25 : ((List Int) × (List Int))) (v18 : Int) (b0 : (List Int)) (b4 : (List Bool)) (c158 : ¬ (v18 > (0 : Int))) : Does Tryd.prog G0 3 (bodyAt Tryd.prog 9 [1, 1, 1, 1, 1, 1, 1, 1, 1, 1, 0, 1, 0, 0]) (money_Split_L76_H o25 (v18, b0, b4)) (.exit 4) (S 138 [(9, .vec 0 b0.length 1)] [{ c := (fl e_i64 b0), e := 3, ext := true, fz := 0, pl := true, o := true }, { c := (fl e_u64 o25.2), e := 43, ext := true, fz := 0, pl := true, o := true }, { c := (fl e_bool b4), e := 4, ext := true, fz := 0, pl := true, o := true }]) :=
  Does.of_viewM 3 400 [.op none .c, .op none .a, .br false] [0, 1, 2] (ps := [((decide (v18 > (0 : Int))) = false)]) (by kernel_rfl) (by kernel_rfl) (ok1 (decide_eq_false c158))
def money_Split_L76_X (o25 : ((List Int) × (List Int))) : ((List Int) × (List Bool)) → AEx := fun o => (.exit 4)
def money_Split_L76_E (o25 : ((List Int) × (List Int))) : ((List Int) × (List Bool)) → St := fun o => S 138 [(9, .vec 0 o.1.length 1)] [{ c := (fl e_i64 o.1), e := 3, ext := true, fz := 0, pl := true, o := true }, { c := (fl e_u64 o25.2), e := 43, ext := true, fz := 0, pl := true, o := true }, { c := (fl e_bool o.2), e := 4, ext := true, fz := 0, pl := true, o := true }]
theorem money_Split_L76_does (o25 : ((List Int) × (List Int))) {s : (Int × (List Int) × (List Bool))} {r : ((List Int) × (List Bool))} (h : lp (money_Split_L76_step o25) s = some r) : Does Tryd.prog G0 3 (.loop (bodyAt Tryd.prog 9 [1, 1, 1, 1, 1, 1, 1, 1, 1, 1, 0, 1, 0, 0])) (money_Split_L76_H o25 s) (money_Split_L76_X o25 r) (money_Split_L76_E o25 r) := by
  refine Does.lp (H := money_Split_L76_H o25) (X := money_Split_L76_X o25) (E := money_Split_L76_E o25) (fun s s2 h => ?_) (fun s r h => ?_) h
  · obtain ⟨v18, b0, b4⟩ := s
    unfold money_Split_L76_step at h
    try dsimp only at h
    rcases ite_some h with ⟨c158, h⟩ | ⟨c158, h⟩
    · obtain ⟨o159, hl159, h⟩ := bind_some h
      obtain ⟨h190, h⟩ := guard_some h
      obtain ⟨x191, h192, h⟩ := bind_some h
      obtain ⟨h193, h⟩ := guard_some h
      obtain ⟨x194, h195, h⟩ := bind_some h
      obtain ⟨h196, h⟩ := guard_some h
      simp only [Option.some.injEq, Sum.inl.injEq] at h
      subst h
      have hq := money_Split_L76_0 o25 v18 b0 b4 c158 o159 hl159 h190 x191 h192 h193 x194 h195 h196
      first | exact hq | exact Eq.mp (by simp only [money_Split_L76_H, List.length_set] <;> rfl) hq
    · simp at h
  · obtain ⟨v18, b0, b4⟩ := s
    unfold money_Split_L76_step at h
    try dsimp only at h
    rcases ite_some h with ⟨c158, h⟩ | ⟨c158, h⟩
    · obtain ⟨o159, hl159, h⟩ := bind_some h
      obtain ⟨h190, h⟩ := guard_some h
      obtain ⟨x191, h192, h⟩ := bind_some h
      obtain ⟨h193, h⟩ := guard_some h
      obtain ⟨x194, h195, h⟩ := bind_some h
      obtain ⟨h196, h⟩ := guard_some h
      simp at h
    · simp only [Option.some.injEq, Sum.inr.injEq] at h
      subst h
      exact ⟨money_Split_L76_1 o25 v18 b0 b4 c158, by intro q; cases q⟩
noncomputable def money_Split (amount_0 : Int) (weights_1 : (List Int)) : Option ((List Int) × Int) :=
  if amount_0 < (0 : Int) then
    some (([] : List Int), 13)
  else
    (money_Fits amount_0).bind fun r2 =>
    if r2 = true then
      if (↑weights_1.length : Int) > (1024 : Int) then
        some (([] : List Int), 3)
      else
        (lp (money_Split_L6_step amount_0 weights_1) ((0 : Int), (0 : Nat))).bind fun qq => match qq with
        | Sum.inl o6 =>
          some (([] : List Int), 1)
        | Sum.inr (o6) =>
          if o6 = (0 : Int) then
            some (([] : List Int), 1)
          else
            if weights_1.length ≤ 4294967296 then
              (lp (money_Split_L25_step amount_0 weights_1 o6) ((0 : Nat), (List.replicate weights_1.length (0 : Int)), (List.replicate weights_1.length (0 : Int)))).bind fun o25 =>
              (money_total o25.1).bind fun r73 =>
              if InR .i64 (amount_0 - r73) then
                (lp (money_Split_L76_step o25) ((amount_0 - r73), o25.1, (List.replicate weights_1.length (false : Bool)))).bind fun o76 =>
                some (o76.1, 0)
              else none
            else none
    else
      some (([] : List Int), 13)
theorem money_Split_0 (amount_0 : Int) (weights_1 : (List Int)) (c1 : amount_0 < (0 : Int)) : Ret Tryd.prog G0 9 [.int .i64 amount_0, .lst (fl e_i64 weights_1) weights_1.length] (.tup [.vec 0 (([] : List Int).length) 1, .int .i64 13]) [{ c := (fl e_i64 ([] : List Int)), e := 3, ext := true, fz := 0, pl := true, o := true }] :=
  Ret.of_view 400 (cs 3 ((.op none .a) :: (.op none .c) :: (.op (some true) .c) :: (cs 3 ((.br true) :: (cs 2 [.tr (.vec (.t 4) 1 3), .tr (.eqc 0 (fl e_i64 ([] : List Int))), .tr (.eqt (.t 4) (.vec 0 (([] : List Int).length) 1))]))))) [0] (ps := [((decide (amount_0 < (0 : Int))) = true), (true = true), ([] = (fl e_i64 ([] : List Int))), ((.vec 0 0 1 : AV) = .vec 0 (([] : List Int).length) 1)]) (by kernel_rfl) (by kernel_rfl) ⟨(decide_eq_true c1), rfl, rfl, ok1 rfl⟩
theorem money_Split_1 (amount_0 : Int) (weights_1 : (List Int)) (c1 : ¬ (amount_0 < (0 : Int))) (r2 : Bool) (h3 : money_Fits amount_0 = some r2) (c4 : r2 = true) (c5 : (↑weights_1.length : Int) > (1024 : Int)) : Ret Tryd.prog G0 9 [.int .i64 amount_0, .lst (fl e_i64 weights_1) weights_1.length] (.tup [.vec 0 (([] : List Int).length) 1, .int .i64 3]) [{ c := (fl e_i64 ([] : List Int)), e := 3, ext := true, fz := 0, pl := true, o := true }] :=
  Ret.of_view 400 (cs 3 ((.op none .a) :: (.op none .c) :: (.op (some false) .c) :: (.ret none [.int .i64 amount_0] (.bool r2) []) :: (cs 2 ((.br false) :: (cs 2 ((.op none .a) :: (.br true) :: (cs 2 [.tr (.vec (.t 4) 1 3), .tr (.eqc 0 (fl e_i64 ([] : List Int))), .tr (.eqt (.t 4) (.vec 0 (([] : List Int).length) 1))]))))))) [0] (ps := [((decide (amount_0 < (0 : Int))) = false), ((.int .i64 amount_0 : AV) = .int .i64 amount_0), (Ret Tryd.prog G0 16 [.int .i64 amount_0] (.bool r2) []), ((!r2) = false), ((decide ((↑weights_1.length : Int) > (1024 : Int))) = true), ([] = (fl e_i64 ([] : List Int))), ((.vec 0 0 1 : AV) = .vec 0 (([] : List Int).length) 1)]) (by kernel_rfl) (by kernel_rfl) ⟨(decide_eq_false c1), rfl, (money_Fits_ret amount_0 r2 h3), (not_f c4), (decide_eq_true c5), rfl, ok1 rfl⟩
theorem money_Split_2 (amount_0 : Int) (weights_1 : (List Int)) (c1 : ¬ (amount_0 < (0 : Int))) (r2 : Bool) (h3 : money_Fits amount_0 = some r2) (c4 : r2 = true) (c5 : ¬ ((↑weights_1.length : Int) > (1024 : Int))) (o6 : Unit) (hl6 : lp (money_Split_L6_step amount_0 weights_1) ((0 : Int), (0 : Nat)) = some (Sum.inl o6)) : Ret Tryd.prog G0 9 [.int .i64 amount_0, .lst (fl e_i64 weights_1) weights_1.length] (.tup [.vec 0 (([] : List Int).length) 1, .int .i64 1]) [{ c := (fl e_i64 ([] : List Int)), e := 3, ext := true, fz := 0, pl := true, o := true }] :=
  Ret.of_view 400 (cs 3 ((.op none .a) :: (.op none .c) :: (.op (some false) .c) :: (.ret none [.int .i64 amount_0] (.bool r2) []) :: (cs 2 ((.br false) :: (cs 2 ((.op none .a) :: (.br false) :: (cs 4 [.fcut 0 .ret [(4, .nils), (5, .int .i64 1)] [] [] [(0, .int .i64 amount_0), (1, .lst (fl e_i64 weights_1) weights_1.length), (6, .int .i64 (0 : Int)), (32, .lst (fl e_i64 weights_1) weights_1.length), (33, .int .i64 (↑weights_1.length : Int)), (34, .int .i64 (↑(0 : Nat) : Int))] [], .tr (.vec (.t 4) 1 3), .tr (.eqc 0 (fl e_i64 ([] : List Int))), .tr (.eqt (.t 4) (.vec 0 (([] : List Int).length) 1))]))))))) [0] (ps := [((decide (amount_0 < (0 : Int))) = false), ((.int .i64 amount_0 : AV) = .int .i64 amount_0), (Ret Tryd.prog G0 16 [.int .i64 amount_0] (.bool r2) []), ((!r2) = false), ((decide ((↑weights_1.length : Int) > (1024 : Int))) = false), ((.int .i64 amount_0 : AV) = .int .i64 amount_0), ((.lst (fl e_i64 weights_1) weights_1.length : AV) = .lst (fl e_i64 weights_1) weights_1.length), ((.int .i64 0 : AV) = .int .i64 (0 : Int)), ((.lst (fl e_i64 weights_1) weights_1.length : AV) = .lst (fl e_i64 weights_1) weights_1.length), ((.int .i64 (↑weights_1.length : Int) : AV) = .int .i64 (↑weights_1.length : Int)), ((.int .i64 0 : AV) = .int .i64 (↑(0 : Nat) : Int)), (Does Tryd.prog G0 0 (.loop (bodyAt Tryd.prog 9 [1, 1, 1, 1, 0, 1, 0, 0])) (S 138 [(0, .int .i64 amount_0), (1, .lst (fl e_i64 weights_1) weights_1.length), (6, .int .i64 (0 : Int)), (32, .lst (fl e_i64 weights_1) weights_1.length), (33, .int .i64 (↑weights_1.length : Int)), (34, .int .i64 (↑(0 : Nat) : Int))] []) .ret (S 138 [(4, .nils), (5, .int .i64 1)] [])), ([] = (fl e_i64 ([] : List Int))), ((.vec 0 0 1 : AV) = .vec 0 (([] : List Int).length) 1)]) (by kernel_rfl) (by kernel_rfl) ⟨(decide_eq_false c1), rfl, (money_Fits_ret amount_0 r2 h3), (not_f c4), (decide_eq_false c5), rfl, rfl, rfl, rfl, rfl, rfl, (money_Split_L6_does amount_0 weights_1 hl6), rfl, ok1 rfl⟩
theorem money_Split_3 (amount_0 : Int) (weights_1 : (List Int)) (c1 : ¬ (amount_0 < (0 : Int))) (r2 : Bool) (h3 : money_Fits amount_0 = some r2) (c4 : r2 = true) (c5 : ¬ ((↑weights_1.length : Int) > (1024 : Int))) (o6 : Int) (hl6 : lp (money_Split_L6_step amount_0 weights_1) ((0 : Int), (0 : Nat)) = some (Sum.inr (o6))) (c23 : o6 = (0 : Int)) : Ret Tryd.prog G0 9 [.int .i64 amount_0, .lst (fl e_i64 weights_1) weights_1.length] (.tup [.vec 0 (([] : List Int).length) 1, .int .i64 1]) [{ c := (fl e_i64 ([] : List Int)), e := 3, ext := true, fz := 0, pl := true, o := true }] :=
  Ret.of_view 400 (cs 3 ((.op none .a) :: (.op none .c) :: (.op (some false) .c) :: (.ret none [.int .i64 amount_0] (.bool r2) []) :: (cs 2 ((.br false) :: (cs 2 ((.op none .a) :: (.br false) :: (cs 4 ((.fcut 0 (.exit 0) [(0, .int .i64 amount_0), (1, .lst (fl e_i64 weights_1) weights_1.length), (6, .int .i64 o6)] [] [] [(0, .int .i64 amount_0), (1, .lst (fl e_i64 weights_1) weights_1.length), (6, .int .i64 (0 : Int)), (32, .lst (fl e_i64 weights_1) weights_1.length), (33, .int .i64 (↑weights_1.length : Int)), (34, .int .i64 (↑(0 : Nat) : Int))] []) :: (.op none .c) :: (.op none .a) :: (.br true) :: (cs 2 [.tr (.vec (.t 4) 1 3), .tr (.eqc 0 (fl e_i64 ([] : List Int))), .tr (.eqt (.t 4) (.vec 0 (([] : List Int).length) 1))]))))))))) [0] (ps := [((decide (amount_0 < (0 : Int))) = false), ((.int .i64 amount_0 : AV) = .int .i64 amount_0), (Ret Tryd.prog G0 16 [.int .i64 amount_0] (.bool r2) []), ((!r2) = false), ((decide ((↑weights_1.length : Int) > (1024 : Int))) = false), ((.int .i64 amount_0 : AV) = .int .i64 amount_0), ((.lst (fl e_i64 weights_1) weights_1.length : AV) = .lst (fl e_i64 weights_1) weights_1.length), ((.int .i64 0 : AV) = .int .i64 (0 : Int)), ((.lst (fl e_i64 weights_1) weights_1.length : AV) = .lst (fl e_i64 weights_1) weights_1.length), ((.int .i64 (↑weights_1.length : Int) : AV) = .int .i64 (↑weights_1.length : Int)), ((.int .i64 0 : AV) = .int .i64 (↑(0 : Nat) : Int)), (Does Tryd.prog G0 0 (.loop (bodyAt Tryd.prog 9 [1, 1, 1, 1, 0, 1, 0, 0])) (S 138 [(0, .int .i64 amount_0), (1, .lst (fl e_i64 weights_1) weights_1.length), (6, .int .i64 (0 : Int)), (32, .lst (fl e_i64 weights_1) weights_1.length), (33, .int .i64 (↑weights_1.length : Int)), (34, .int .i64 (↑(0 : Nat) : Int))] []) (.exit 0) (S 138 [(0, .int .i64 amount_0), (1, .lst (fl e_i64 weights_1) weights_1.length), (6, .int .i64 o6)] [])), ((o6 == (0 : Int)) = true), ([] = (fl e_i64 ([] : List Int))), ((.vec 0 0 1 : AV) = .vec 0 (([] : List Int).length) 1)]) (by kernel_rfl) (by kernel_rfl) ⟨(decide_eq_false c1), rfl, (money_Fits_ret amount_0 r2 h3), (not_f c4), (decide_eq_false c5), rfl, rfl, rfl, rfl, rfl, rfl, (money_Split_L6_does amount_0 weights_1 hl6), (beq_t c23), rfl, ok1 rfl⟩
theorem money_Split_4 (amount_0 : Int) (weights_1 : (List Int)) (c1 : ¬ (amount_0 < (0 : Int))) (r2 : Bool) (h3 : money_Fits amount_0 = some r2) (c4 : r2 = true) (c5 : ¬ ((↑weights_1.length : Int) > (1024 : Int))) (o6 : Int) (hl6 : lp (money_Split_L6_step amount_0 weights_1) ((0 : Int), (0 : Nat)) = some (Sum.inr (o6))) (c23 : ¬ (o6 = (0 : Int))) (h24 : weights_1.length ≤ 4294967296) (o25 : ((List Int) × (List Int))) (hl25 : lp (money_Split_L25_step amount_0 weights_1 o6) ((0 : Nat), (List.replicate weights_1.length (0 : Int)), (List.replicate weights_1.length (0 : Int))) = some o25) (r73 : Int) (h74 : money_total o25.1 = some r73) (h75 : InR .i64 (amount_0 - r73)) (o76 : ((List Int) × (List Bool))) (hl76 : lp (money_Split_L76_step o25) ((amount_0 - r73), o25.1, (List.replicate weights_1.length (false : Bool))) = some o76) : Ret Tryd.prog G0 9 [.int .i64 amount_0, .lst (fl e_i64 weights_1) weights_1.length] (.tup [.vec 0 o76.1.length 1, .int .i64 0]) [{ c := (fl e_i64 o76.1), e := 3, ext := true, fz := 0, pl := true, o := true }] :=
  Ret.of_view 400 (cs 3 ((.op none .a) :: (.op none .c) :: (.op (some false) .c) :: (.ret none [.int .i64 amount_0] (.bool r2) []) :: (cs 2 ((.br false) :: (cs 2 ((.op none .a) :: (.br false) :: (cs 4 ((.fcut 0 (.exit 0) [(0, .int .i64 amount_0), (1, .lst (fl e_i64 weights_1) weights_1.length), (6, .int .i64 o6)] [] [] [(0, .int .i64 amount_0), (1, .lst (fl e_i64 weights_1) weights_1.length), (6, .int .i64 (0 : Int)), (32, .lst (fl e_i64 weights_1) weights_1.length), (33, .int .i64 (↑weights_1.length : Int)), (34, .int .i64 (↑(0 : Nat) : Int))] []) :: (.op none .c) :: (.op none .a) :: (.br false) :: (cs 2 ((.op none (.m weights_1.length weights_1.length)) :: (.tr (.eqc 0 (fl e_i64 (List.replicate weights_1.length (0 : Int))))) :: (cs 3 ((.op none (.m weights_1.length weights_1.length)) :: (.tr (.eqc 1 (fl e_u64 (List.replicate weights_1.length (0 : Int))))) :: (cs 4 ((.tr (.wid (.t 9))) :: (.tr (.wid (.t 10))) :: (.fcut 2 (.exit 2) [(0, .int .i64 amount_0), (1, .lst (fl e_i64 weights_1) weights_1.length), (9, .vec 0 o25.1.length 1), (10, .vec 1 o25.2.length 1)] [{ c := (fl e_i64 o25.1), e := 3, ext := true, fz := 0, pl := true, o := true }, { c := (fl e_u64 o25.2), e := 43, ext := true, fz := 0, pl := true, o := true }] [0, 1] [(0, .int .i64 amount_0), (1, .lst (fl e_i64 weights_1) weights_1.length), (6, .int .i64 o6), (9, .vec 0 ((List.replicate weights_1.length (0 : Int)).length) 1), (10, .vec 1 ((List.replicate weights_1.length (0 : Int)).length) 1), (58, .lst (fl e_i64 weights_1) weights_1.length), (59, .int .i64 (↑weights_1.length : Int)), (60, .int .i64 (↑(0 : Nat) : Int))] [{ c := (fl e_i64 (List.replicate weights_1.length (0 : Int))), e := 3, ext := true, fz := 0, pl := true, o := true }, { c := (fl e_u64 (List.replicate weights_1.length (0 : Int))), e := 43, ext := true, fz := 0, pl := true, o := true }]) :: (cs 2 ((.op none (.m weights_1.length weights_1.length)) :: (.tr (.eqc 4 (fl e_bool (List.replicate weights_1.length (false : Bool))))) :: (cs 3 ((.ret none [.lst (fl e_i64 o25.1) o25.1.length] (.int .i64 r73) []) :: (.op none .w) :: (.op none .c) :: (.tr (.wid (.t 17))) :: (.fcut 3 (.exit 4) [(9, .vec 0 o76.1.length 1)] [{ c := (fl e_i64 o76.1), e := 3, ext := true, fz := 0, pl := true, o := true }, { c := (fl e_u64 o25.2), e := 43, ext := true, fz := 0, pl := true, o := true }, { c := (fl e_bool o76.2), e := 4, ext := true, fz := 0, pl := true, o := true }] [0, 1, 4] [(9, .vec 0 o25.1.length 1), (10, .vec 1 o25.2.length 1), (17, .vec 2 ((List.replicate weights_1.length (false : Bool)).length) 1), (18, .int .i64 (amount_0 - r73))] [{ c := (fl e_i64 o25.1), e := 3, ext := true, fz := 0, pl := true, o := true }, { c := (fl e_u64 o25.2), e := 43, ext := true, fz := 0, pl := true, o := true }, { c := (fl e_bool (List.replicate weights_1.length (false : Bool))), e := 4, ext := true, fz := 0, pl := true, o := true }]) :: (cs 3 []))))))))))))))))))) [0] (ps := [((decide (amount_0 < (0 : Int))) = false), ((.int .i64 amount_0 : AV) = .int .i64 amount_0), (Ret Tryd.prog G0 16 [.int .i64 amount_0] (.bool r2) []), ((!r2) = false), ((decide ((↑weights_1.length : Int) > (1024 : Int))) = false), ((.int .i64 amount_0 : AV) = .int .i64 amount_0), ((.lst (fl e_i64 weights_1) weights_1.length : AV) = .lst (fl e_i64 weights_1) weights_1.length), ((.int .i64 0 : AV) = .int .i64 (0 : Int)), ((.lst (fl e_i64 weights_1) weights_1.length : AV) = .lst (fl e_i64 weights_1) weights_1.length), ((.int .i64 (↑weights_1.length : Int) : AV) = .int .i64 (↑weights_1.length : Int)), ((.int .i64 0 : AV) = .int .i64 (↑(0 : Nat) : Int)), (Does Tryd.prog G0 0 (.loop (bodyAt Tryd.prog 9 [1, 1, 1, 1, 0, 1, 0, 0])) (S 138 [(0, .int .i64 amount_0), (1, .lst (fl e_i64 weights_1) weights_1.length), (6, .int .i64 (0 : Int)), (32, .lst (fl e_i64 weights_1) weights_1.length), (33, .int .i64 (↑weights_1.length : Int)), (34, .int .i64 (↑(0 : Nat) : Int))] []) (.exit 0) (S 138 [(0, .int .i64 amount_0), (1, .lst (fl e_i64 weights_1) weights_1.length), (6, .int .i64 o6)] [])), ((o6 == (0 : Int)) = false), ((↑weights_1.length : Int) = ((weights_1.length : Nat) : Int)), ((↑weights_1.length : Int) = ((weights_1.length : Nat) : Int)), (weights_1.length ≤ weights_1.length), (weights_1.length ≤ 4294967296), (zeros [.int .i64 0] weights_1.length = (fl e_i64 (List.replicate weights_1.length (0 : Int)))), ((↑weights_1.length : Int) = ((weights_1.length : Nat) : Int)), ((↑weights_1.length : Int) = ((weights_1.length : Nat) : Int)), (weights_1.length ≤ weights_1.length), (weights_1.length ≤ 4294967296), (zeros [.int .u64 0] weights_1.length = (fl e_u64 (List.replicate weights_1.length (0 : Int)))), (weights_1.length ≤ weights_1.length), (weights_1.length ≤ weights_1.length), ((.int .i64 amount_0 : AV) = .int .i64 amount_0), ((.lst (fl e_i64 weights_1) weights_1.length : AV) = .lst (fl e_i64 weights_1) weights_1.length), ((.int .i64 o6 : AV) = .int .i64 o6), ((.vec 0 weights_1.length 1 : AV) = .vec 0 ((List.replicate weights_1.length (0 : Int)).length) 1), ((.vec 1 weights_1.length 1 : AV) = .vec 1 ((List.replicate weights_1.length (0 : Int)).length) 1), ((.lst (fl e_i64 weights_1) weights_1.length : AV) = .lst (fl e_i64 weights_1) weights_1.length), ((.int .i64 (↑weights_1.length : Int) : AV) = .int .i64 (↑weights_1.length : Int)), ((.int .i64 0 : AV) = .int .i64 (↑(0 : Nat) : Int)), (({ c := (fl e_i64 (List.replicate weights_1.length (0 : Int))), e := 3, ext := true, fz := 0, pl := true, o := true } : Blk) = renB [0, 1] { c := (fl e_i64 (List.replicate weights_1.length (0 : Int))), e := 3, ext := true, fz := 0, pl := true, o := true }), (({ c := (fl e_u64 (List.replicate weights_1.length (0 : Int))), e := 43, ext := true, fz := 0, pl := true, o := true } : Blk) = renB [0, 1] { c := (fl e_u64 (List.replicate weights_1.length (0 : Int))), e := 43, ext := true, fz := 0, pl := true, o := true }), (Does Tryd.prog G0 2 (.loop (bodyAt Tryd.prog 9 [1, 1, 1, 1, 1, 1, 1, 1, 0, 1, 0, 0])) (S 138 [(0, .int .i64 amount_0), (1, .lst (fl e_i64 weights_1) weights_1.length), (6, .int .i64 o6), (9, .vec 0 ((List.replicate weights_1.length (0 : Int)).length) 1), (10, .vec 1 ((List.replicate weights_1.length (0 : Int)).length) 1), (58, .lst (fl e_i64 weights_1) weights_1.length), (59, .int .i64 (↑weights_1.length : Int)), (60, .int .i64 (↑(0 : Nat) : Int))] [{ c := (fl e_i64 (List.replicate weights_1.length (0 : Int))), e := 3, ext := true, fz := 0, pl := true, o := true }, { c := (fl e_u64 (List.replicate weights_1.length (0 : Int))), e := 43, ext := true, fz := 0, pl := true, o := true }]) (.exit 2) (S 138 [(0, .int .i64 amount_0), (1, .lst (fl e_i64 weights_1) weights_1.length), (9, .vec 0 o25.1.length 1), (10, .vec 1 o25.2.length 1)] [{ c := (fl e_i64 o25.1), e := 3, ext := true, fz := 0, pl := true, o := true }, { c := (fl e_u64 o25.2), e := 43, ext := true, fz := 0, pl := true, o := true }])), ((↑weights_1.length : Int) = ((weights_1.length : Nat) : Int)), ((↑weights_1.length : Int) = ((weights_1.length : Nat) : Int)), (weights_1.length ≤ weights_1.length), (weights_1.length ≤ 4294967296), (zeros [.bool false] weights_1.length = (fl e_bool (List.replicate weights_1.length (false : Bool)))), ((fl e_i64 o25.1) = (fl e_i64 o25.1) ∧ o25.1.length = o25.1.length ∧ List.length ((fl e_i64 o25.1) : List AV) = o25.1.length), (datBlks []), (Ret Tryd.prog G0 24 [.lst (fl e_i64 o25.1) o25.1.length] (.int .i64 r73) []), (IntKind.min .i64 ≤ (amount_0 - r73) ∧ (amount_0 - r73) ≤ IntKind.max .i64), (weights_1.length ≤ weights_1.length), ((.vec 0 o25.1.length 1 : AV) = .vec 0 o25.1.length 1), ((.vec 1 o25.2.length 1 : AV) = .vec 1 o25.2.length 1), ((.vec 4 weights_1.length 1 : AV) = .vec 4 ((List.replicate weights_1.length (false : Bool)).length) 1), ((.int .i64 (amount_0 - r73) : AV) = .int .i64 (amount_0 - r73)), (({ c := (fl e_i64 o25.1), e := 3, ext := true, fz := 0, pl := true, o := true } : Blk) = renB [0, 1, 4] { c := (fl e_i64 o25.1), e := 3, ext := true, fz := 0, pl := true, o := true }), (({ c := (fl e_u64 o25.2), e := 43, ext := true, fz := 0, pl := true, o := true } : Blk) = renB [0, 1, 4] { c := (fl e_u64 o25.2), e := 43, ext := true, fz := 0, pl := true, o := true }), (({ c := (fl e_bool (List.replicate weights_1.length (false : Bool))), e := 4, ext := true, fz := 0, pl := true, o := true } : Blk) = renB [0, 1, 4] { c := (fl e_bool (List.replicate weights_1.length (false : Bool))), e := 4, ext := true, fz := 0, pl := true, o := true }), (Does Tryd.prog G0 3 (.loop (bodyAt Tryd.prog 9 [1, 1, 1, 1, 1, 1, 1, 1, 1, 1, 0, 1, 0, 0])) (S 138 [(9, .vec 0 o25.1.length 1), (10, .vec 1 o25.2.length 1), (17, .vec 2 ((List.replicate weights_1.length (false : Bool)).length) 1), (18, .int .i64 (amount_0 - r73))] [{ c := (fl e_i64 o25.1), e := 3, ext := true, fz := 0, pl := true, o := true }, { c := (fl e_u64 o25.2), e := 43, ext := true, fz := 0, pl := true, o := true }, { c := (fl e_bool (List.replicate weights_1.length (false : Bool))), e := 4, ext := true, fz := 0, pl := true, o := true }]) (.exit 4) (S 138 [(9, .vec 0 o76.1.length 1)] [{ c := (fl e_i64 o76.1), e := 3, ext := true, fz := 0, pl := true, o := true }, { c := (fl e_u64 o25.2), e := 43, ext := true, fz := 0, pl := true, o := true }, { c := (fl e_bool o76.2), e := 4, ext := true, fz := 0, pl := true, o := true }]))]) (by kernel_rfl) (by kernel_rfl) ⟨(decide_eq_false c1), rfl, (money_Fits_ret amount_0 r2 h3), (not_f c4), (decide_eq_false c5), rfl, rfl, rfl, rfl, rfl, rfl, (money_Split_L6_does amount_0 weights_1 hl6), (beq_f c23), rfl, rfl, (Nat.le_refl _), h24, (zeros_fl (f := e_i64) (x := (0 : Int)) rfl _), rfl, rfl, (Nat.le_refl _), h24, (zeros_fl (f := e_u64) (x := (0 : Int)) rfl _), (Nat.le_refl _), (Nat.le_refl _), rfl, rfl, rfl, (by first | rfl | simp only [List.length_replicate, List.length_set]), (by first | rfl | simp only [List.length_replicate, List.length_set]), rfl, rfl, rfl, rfl, rfl, (money_Split_L25_does amount_0 weights_1 o6 hl25), rfl, rfl, (Nat.le_refl _), h24, (zeros_fl (f := e_bool) (x := (false : Bool)) rfl _), ⟨rfl, rfl, (fl_length1 (f := e_i64) (fun _ => rfl) _)⟩, trivial, (money_total_ret o25.1 r73 h74), h75, (Nat.le_refl _), rfl, rfl, (by first | rfl | simp only [List.length_replicate, List.length_set]), rfl, rfl, rfl, rfl, ok1 (money_Split_L76_does o25 hl76)⟩
theorem money_Split_5 (amount_0 : Int) (weights_1 : (List Int)) (c1 : ¬ (amount_0 < (0 : Int))) (r2 : Bool) (h3 : money_Fits amount_0 = some r2) (c4 : ¬ (r2 = true)) : Ret Tryd.prog G0 9 [.int .i64 amount_0, .lst (fl e_i64 weights_1) weights_1.length] (.tup [.vec 0 (([] : List Int).length) 1, .int .i64 13]) [{ c := (fl e_i64 ([] : List Int)), e := 3, ext := true, fz := 0, pl := true, o := true }] :=
  Ret.of_view 400 (cs 3 ((.op none .a) :: (.op none .c) :: (.op (some false) .c) :: (.ret none [.int .i64 amount_0] (.bool r2) []) :: (cs 2 ((.br true) :: (cs 2 [.tr (.vec (.t 4) 1 3), .tr (.eqc 0 (fl e_i64 ([] : List Int))), .tr (.eqt (.t 4) (.vec 0 (([] : List Int).length) 1))]))))) [0] (ps := [((decide (amount_0 < (0 : Int))) = false), ((.int .i64 amount_0 : AV) = .int .i64 amount_0), (Ret Tryd.prog G0 16 [.int .i64 amount_0] (.bool r2) []), ((!r2) = true), ([] = (fl e_i64 ([] : List Int))), ((.vec 0 0 1 : AV) = .vec 0 (([] : List Int).length) 1)]) (by kernel_rfl) (by kernel_rfl) ⟨(decide_eq_false c1), rfl, (money_Fits_ret amount_0 r2 h3), (not_t (eq_false_of_ne_true c4)), rfl, ok1 rfl⟩
theorem money_Split_ret (amount_0 : Int) (weights_1 : (List Int)) (r : ((List Int) × Int)) (h : money_Split amount_0 weights_1 = some r) : Ret Tryd.prog G0 9 [.int .i64 amount_0, .lst (fl e_i64 weights_1) weights_1.length] (.tup [.vec 0 r.1.length 1, .int .i64 r.2]) [{ c := (fl e_i64 r.1), e := 3, ext := true, fz := 0, pl := true, o := true }] := by
  unfold money_Split at h
  rcases ite_some h with ⟨c1, h⟩ | ⟨c1, h⟩
  · simp only [Option.some.injEq] at h
    subst h
    exact money_Split_0 amount_0 weights_1 c1
  · obtain ⟨r2, h3, h⟩ := bind_some h
    rcases ite_some h with ⟨c4, h⟩ | ⟨c4, h⟩
    · rcases ite_some h with ⟨c5, h⟩ | ⟨c5, h⟩
      · simp only [Option.some.injEq] at h
        subst h
        exact money_Split_1 amount_0 weights_1 c1 r2 h3 c4 c5
      · obtain ⟨qq, hl6, h⟩ := bind_some h
        rcases qq with o6 | o6
        · dsimp only at h
          simp only [Option.some.injEq] at h
          subst h
          exact money_Split_2 amount_0 weights_1 c1 r2 h3 c4 c5 o6 hl6
        · dsimp only at h
          rcases ite_some h with ⟨c23, h⟩ | ⟨c23, h⟩
          · simp only [Option.some.injEq] at h
            subst h
            exact money_Split_3 amount_0 weights_1 c1 r2 h3 c4 c5 o6 hl6 c23
          · obtain ⟨h24, h⟩ := guard_some h
            obtain ⟨o25, hl25, h⟩ := bind_some h
            obtain ⟨r73, h74, h⟩ := bind_some h
            obtain ⟨h75, h⟩ := guard_some h
            obtain ⟨o76, hl76, h⟩ := bind_some h
            simp only [Option.some.injEq] at h
            subst h
            exact money_Split_4 amount_0 weights_1 c1 r2 h3 c4 c5 o6 hl6 c23 h24 o25 hl25 r73 h74 h75 o76 hl76
    · simp only [Option.some.injEq] at h
      subst h
      exact money_Split_5 amount_0 weights_1 c1 r2 h3 c4
noncomputable def tollwaylaw03_same_L2_step (a_0 : (List Int)) (b_1 : (List Int)) : Nat → Option (Nat ⊕ (Unit ⊕ Unit)) := fun k13 =>
  if (↑k13 : Int) < (↑a_0.length : Int) then
    (a_0[k13]?).bind fun x11 =>
    (b_1[k13]?).bind fun x13 =>
    if x11 = x13 then
      if InR .i64 ((↑k13 : Int) + 1) then
        some (Sum.inl (k13 + 1))
      else none
    else
      some (Sum.inr (Sum.inl ()))
  else
    some (Sum.inr (Sum.inr (())))
def tollwaylaw03_same_L2_H (a_0 : (List Int)) (b_1 : (List Int)) : Nat → St := fun (s : Nat) => S 26 [(0, .lst (fl e_i64 a_0) a_0.length), (1, .lst (fl e_i64 b_1) b_1.length), (12, .int .i64 (↑a_0.length : Int)), (13, .int .i64 (↑s : Int))] []
theorem tollwaylaw03_same_L2_0 (a_0 : (List Int)) (b_1 : (List Int)) (k13 : Nat) (c10 : (↑k13 : Int) < (↑a_0.length : Int)) (x11 : Int) (h12 : a_0[k13]? = some x11) (x13 : Int) (h14 : b_1[k13]? = some x13) (c15 : x11 = x13) (h16 : InR .i64 ((↑k13 : Int) + 1)) : Does Tryd.prog G0 0 (bodyAt Tryd.prog 11 [1, 1, 0, 1, 0, 0]) (tollwaylaw03_same_L2_H a_0 b_1 k13) .normal (S 26 [(0, .lst (fl e_i64 a_0) a_0.length), (1, .lst (fl e_i64 b_1) b_1.length), (12, .int .i64 (↑a_0.length : Int)), (13, .int .i64 ((↑k13 : Int) + 1))] []) :=
  Does.of_viewM 0 400 ((.op none .a) :: (.br true) :: (cs 4 ((.op none (.i k13)) :: (.op none (.v [.int .i64 x11])) :: (cs 2 [.op none (.i k13), .op none (.v [.int .i64 x13]), .op none .a, .br false, .op none .w, .op none .c])))) [] (ps := [((decide ((↑k13 : Int) < (↑a_0.length : Int))) = true), ((↑k13 : Int) = ((k13 : Nat) : Int) ∧ k13 < a_0.length), ((fl e_i64 a_0) ≠ []), (sub (fl e_i64 a_0) k13 1 = [.int .i64 x11]), ((↑k13 : Int) = ((k13 : Nat) : Int) ∧ k13 < b_1.length), ((fl e_i64 b_1) ≠ []), (sub (fl e_i64 b_1) k13 1 = [.int .i64 x13]), ((!(x11 == x13)) = false), (IntKind.min .i64 ≤ ((↑k13 : Int) + 1) ∧ ((↑k13 : Int) + 1) ≤ IntKind.max .i64)]) (by kernel_rfl) (by kernel_rfl) ⟨(decide_eq_true c10), ⟨rfl, get_lt h12⟩, (fl_ne (f := e_i64) (z := 0) (fun _ => rfl) h12), (fl_sub1 (f := e_i64) (fun _ => rfl) h12 rfl), ⟨rfl, get_lt h14⟩, (fl_ne (f := e_i64) (z := 0) (fun _ => rfl) h14), (fl_sub1 (f := e_i64) (fun _ => rfl) h14 rfl), (not_f (beq_t c15)), ok1 h16⟩
theorem tollwaylaw03_same_L2_1 (a_0 : (List Int)) (b_1 : (List Int)) (k13 : Nat) (c10 : (↑k13 : Int) < (↑a_0.length : Int)) (x11 : Int) (h12 : a_0[k13]? = some x11) (x13 : Int) (h14 : b_1[k13]? = some x13) (c15 : ¬ (x11 = x13)) : Does Tryd.prog G0 0 (bodyAt Tryd.prog 11 [1, 1, 0, 1, 0, 0]) (tollwaylaw03_same_L2_H a_0 b_1 k13) .ret (S 26 [(4, .bool false)] []) :=
  Does.of_viewM 0 400 ((.op none .a) :: (.br true) :: (cs 4 ((.op none (.i k13)) :: (.op none (.v [.int .i64 x11])) :: (cs 2 [.op none (.i k13), .op none (.v [.int .i64 x13]), .op none .a, .br true, .op none .c])))) [] (ps := [((decide ((↑k13 : Int) < (↑a_0.length : Int))) = true), ((↑k13 : Int) = ((k13 : Nat) : Int) ∧ k13 < a_0.length), ((fl e_i64 a_0) ≠ []), (sub (fl e_i64 a_0) k13 1 = [.int .i64 x11]), ((↑k13 : Int) = ((k13 : Nat) : Int) ∧ k13 < b_1.length), ((fl e_i64 b_1) ≠ []), (sub (fl e_i64 b_1) k13 1 = [.int .i64 x13]), ((!(x11 == x13)) = true)]) (by kernel_rfl) (by kernel_rfl) ⟨(decide_eq_true c10), ⟨rfl, get_lt h12⟩, (fl_ne (f := e_i64) (z := 0) (fun _ => rfl) h12), (fl_sub1 (f := e_i64) (fun _ => rfl) h12 rfl), ⟨rfl, get_lt h14⟩, (fl_ne (f := e_i64) (z := 0) (fun _ => rfl) h14), (fl_sub1 (f := e_i64) (fun _ => rfl) h14 rfl), ok1 (not_t (beq_f c15))⟩
theorem tollwaylaw03_same_L2_2 (a_0 : (List Int)) (b_1 : (List Int)) (k13 : Nat) (c10 : ¬ ((↑k13 : Int) < (↑a_0.length : Int))) : Does Tryd.prog G0 0 (bodyAt Tryd.prog 11 [1, 1, 0, 1, 0, 0]) (tollwaylaw03_same_L2_H a_0 b_1 k13) (.exit 0) (S 26 [] []) :=
  Does.of_viewM 0 400 [.op none .a, .br false] [] (ps := [((decide ((↑k13 : Int) < (↑a_0.length : Int))) = false)]) (by kernel_rfl) (by kernel_rfl) (ok1 (decide_eq_false c10))
def tollwaylaw03_same_L2_X (a_0 : (List Int)) (b_1 : (List Int)) : (Unit ⊕ Unit) → AEx := fun q => match q with | Sum.inl o => .ret | Sum.inr (o) => (.exit 0)
def tollwaylaw03_same_L2_E (a_0 : (List Int)) (b_1 : (List Int)) : (Unit ⊕ Unit) → St := fun q => match q with | Sum.inl o => S 26 [(4, .bool false)] [] | Sum.inr (o) => S 26 [] []
theorem tollwaylaw03_same_L2_does (a_0 : (List Int)) (b_1 : (List Int)) {s : Nat} {r : Unit ⊕ Unit} (h : lp (tollwaylaw03_same_L2_step a_0 b_1) s = some r) : Does Tryd.prog G0 0 (.loop (bodyAt Tryd.prog 11 [1, 1, 0, 1, 0, 0])) (tollwaylaw03_same_L2_H a_0 b_1 s) (tollwaylaw03_same_L2_X a_0 b_1 r) (tollwaylaw03_same_L2_E a_0 b_1 r) := by
  refine Does.lp (H := tollwaylaw03_same_L2_H a_0 b_1) (X := tollwaylaw03_same_L2_X a_0 b_1) (E := tollwaylaw03_same_L2_E a_0 b_1) (fun s s2 h => ?_) (fun s r h => ?_) h
  · revert h; revert s; intro k13 h
    unfold tollwaylaw03_same_L2_step at h
    try dsimp only at h
    rcases ite_some h with ⟨c10, h⟩ | ⟨c10, h⟩
    · obtain ⟨x11, h12, h⟩ := bind_some h
      obtain ⟨x13, h14, h⟩ := bind_some h
      rcases ite_some h with ⟨c15, h⟩ | ⟨c15, h⟩
      · obtain ⟨h16, h⟩ := guard_some h
        simp only [Option.some.injEq, Sum.inl.injEq] at h
        subst h
        have hq := tollwaylaw03_same_L2_0 a_0 b_1 k13 c10 x11 h12 x13 h14 c15 h16
        first | exact hq | exact Eq.mp (by simp only [tollwaylaw03_same_L2_H, List.length_set] <;> rfl) hq
      · simp at h
    · simp at h
  · revert h; revert s; intro k13 h
    unfold tollwaylaw03_same_L2_step at h
    try dsimp only at h
    rcases ite_some h with ⟨c10, h⟩ | ⟨c10, h⟩
    · obtain ⟨x11, h12, h⟩ := bind_some h
      obtain ⟨x13, h14, h⟩ := bind_some h
      rcases ite_some h with ⟨c15, h⟩ | ⟨c15, h⟩
      · obtain ⟨h16, h⟩ := guard_some h
        simp at h
      · simp only [Option.some.injEq, Sum.inr.injEq] at h
        subst h
        exact ⟨tollwaylaw03_same_L2_1 a_0 b_1 k13 c10 x11 h12 x13 h14 c15, by intro q; cases q⟩
    · simp only [Option.some.injEq, Sum.inr.injEq] at h
      subst h
      exact ⟨tollwaylaw03_same_L2_2 a_0 b_1 k13 c10, by intro q; cases q⟩
noncomputable def tollwaylaw03_same (a_0 : (List Int)) (b_1 : (List Int)) : Option Bool :=
  if (↑a_0.length : Int) = (↑b_1.length : Int) then
    (lp (tollwaylaw03_same_L2_step a_0 b_1) (0 : Nat)).bind fun qq => match qq with
    | Sum.inl o2 =>
      some false
    | Sum.inr (o2) =>
      some true
  else
    some false
theorem tollwaylaw03_same_0 (a_0 : (List Int)) (b_1 : (List Int)) (c1 : (↑a_0.length : Int) = (↑b_1.length : Int)) (o2 : Unit) (hl2 : lp (tollwaylaw03_same_L2_step a_0 b_1) (0 : Nat) = some (Sum.inl o2)) : Ret Tryd.prog G0 11 [.lst (fl e_i64 a_0) a_0.length, .lst (fl e_i64 b_1) b_1.length] (.bool false) [] :=
  Ret.of_view 400 (cs 5 ((.op none .a) :: (.br false) :: (cs 3 [.fcut 0 .ret [(4, .bool false)] [] [] [(0, .lst (fl e_i64 a_0) a_0.length), (1, .lst (fl e_i64 b_1) b_1.length), (12, .int .i64 (↑a_0.length : Int)), (13, .int .i64 (↑(0 : Nat) : Int))] []]))) [] (ps := [((!((↑a_0.length : Int) == (↑b_1.length : Int))) = false), ((.lst (fl e_i64 a_0) a_0.length : AV) = .lst (fl e_i64 a_0) a_0.length), ((.lst (fl e_i64 b_1) b_1.length : AV) = .lst (fl e_i64 b_1) b_1.length), ((.int .i64 (↑a_0.length : Int) : AV) = .int .i64 (↑a_0.length : Int)), ((.int .i64 0 : AV) = .int .i64 (↑(0 : Nat) : Int)), (Does Tryd.prog G0 0 (.loop (bodyAt Tryd.prog 11 [1, 1, 0, 1, 0, 0])) (S 26 [(0, .lst (fl e_i64 a_0) a_0.length), (1, .lst (fl e_i64 b_1) b_1.length), (12, .int .i64 (↑a_0.length : Int)), (13, .int .i64 (↑(0 : Nat) : Int))] []) .ret (S 26 [(4, .bool false)] []))]) (by kernel_rfl) (by kernel_rfl) ⟨(not_f (beq_t c1)), rfl, rfl, rfl, rfl, ok1 (tollwaylaw03_same_L2_does a_0 b_1 hl2)⟩
theorem tollwaylaw03_same_1 (a_0 : (List Int)) (b_1 : (List Int)) (c1 : (↑a_0.length : Int) = (↑b_1.length : Int)) (o2 : Unit) (hl2 : lp (tollwaylaw03_same_L2_step a_0 b_1) (0 : Nat) = some (Sum.inr (o2))) : Ret Tryd.prog G0 11 [.lst (fl e_i64 a_0) a_0.length, .lst (fl e_i64 b_1) b_1.length] (.bool true) [] :=
  Ret.of_view 400 (cs 5 ((.op none .a) :: (.br false) :: (cs 3 [.fcut 0 (.exit 0) [] [] [] [(0, .lst (fl e_i64 a_0) a_0.length), (1, .lst (fl e_i64 b_1) b_1.length), (12, .int .i64 (↑a_0.length : Int)), (13, .int .i64 (↑(0 : Nat) : Int))] [], .op none .c]))) [] (ps := [((!((↑a_0.length : Int) == (↑b_1.length : Int))) = false), ((.lst (fl e_i64 a_0) a_0.length : AV) = .lst (fl e_i64 a_0) a_0.length), ((.lst (fl e_i64 b_1) b_1.length : AV) = .lst (fl e_i64 b_1) b_1.length), ((.int .i64 (↑a_0.length : Int) : AV) = .int .i64 (↑a_0.length : Int)), ((.int .i64 0 : AV) = .int .i64 (↑(0 : Nat) : Int)), (Does Tryd.prog G0 0 (.loop (bodyAt Tryd.prog 11 [1, 1, 0, 1, 0, 0])) (S 26 [(0, .lst (fl e_i64 a_0) a_0.length), (1, .lst (fl e_i64 b_1) b_1.length), (12, .int .i64 (↑a_0.length : Int)), (13, .int .i64 (↑(0 : Nat) : Int))] []) (.exit 0) (S 26 [] []))]) (by kernel_rfl) (by kernel_rfl) ⟨(not_f (beq_t c1)), rfl, rfl, rfl, rfl, ok1 (tollwaylaw03_same_L2_does a_0 b_1 hl2)⟩
theorem tollwaylaw03_same_2 (a_0 : (List Int)) (b_1 : (List Int)) (c1 : ¬ ((↑a_0.length : Int) = (↑b_1.length : Int))) : Ret Tryd.prog G0 11 [.lst (fl e_i64 a_0) a_0.length, .lst (fl e_i64 b_1) b_1.length] (.bool false) [] :=
  Ret.of_view 400 (cs 5 [.op none .a, .br true, .op none .c]) [] (ps := [((!((↑a_0.length : Int) == (↑b_1.length : Int))) = true)]) (by kernel_rfl) (by kernel_rfl) (ok1 (not_t (beq_f c1)))
theorem tollwaylaw03_same_ret (a_0 : (List Int)) (b_1 : (List Int)) (r : Bool) (h : tollwaylaw03_same a_0 b_1 = some r) : Ret Tryd.prog G0 11 [.lst (fl e_i64 a_0) a_0.length, .lst (fl e_i64 b_1) b_1.length] (.bool r) [] := by
  unfold tollwaylaw03_same at h
  rcases ite_some h with ⟨c1, h⟩ | ⟨c1, h⟩
  · obtain ⟨qq, hl2, h⟩ := bind_some h
    rcases qq with o2 | o2
    · dsimp only at h
      simp only [Option.some.injEq] at h
      subst h
      exact tollwaylaw03_same_0 a_0 b_1 c1 o2 hl2
    · dsimp only at h
      simp only [Option.some.injEq] at h
      subst h
      exact tollwaylaw03_same_1 a_0 b_1 c1 o2 hl2
  · simp only [Option.some.injEq] at h
    subst h
    exact tollwaylaw03_same_2 a_0 b_1 c1
end Go.Proofs.YteljonodbkkckaaDoor.Av
