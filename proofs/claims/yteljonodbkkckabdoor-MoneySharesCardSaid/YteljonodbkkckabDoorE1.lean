import Derived.Test.YteljonodbkkckabDoorAvX
import Derived.Test.YteljonodbkkckabDoorProg
import Derived.Tactics
import Derived.Test.YteljonodbkkckabDoorAwM
import Derived.Test.YteljonodbkkckabDoorE0
set_option linter.unusedVariables false
set_option linter.unusedSimpArgs false
set_option maxHeartbeats 4000000
namespace Go.Proofs.YteljonodbkkckabDoor.Av
open Go Go.Proofs
noncomputable def tollwaylaw03_opposite (a_0 : Int) (e_1 : Int) (b_2 : Int) (f_3 : Int) : Option Bool :=
  if InR .i64 (0 - b_2) then
    if a_0 = (0 - b_2) then
      some (e_1 == f_3)
    else
      some false
  else none
theorem tollwaylaw03_opposite_0 (a_0 : Int) (e_1 : Int) (b_2 : Int) (f_3 : Int) (h1 : InR .i64 (0 - b_2)) (c2 : a_0 = (0 - b_2)) : Ret Tryd.prog G0 10 [.int .i64 a_0, .int .i64 e_1, .int .i64 b_2, .int .i64 f_3] (.bool (e_1 == f_3)) [] :=
  Ret.of_view 400 (cs 3 ((.op none .w) :: (.op none .a) :: (.op none .c) :: (.op (some true) .c) :: (.op none .c) :: (.op none .a) :: (cs 2 []))) [] (ps := [(IntKind.min .i64 ≤ (0 - b_2) ∧ (0 - b_2) ≤ IntKind.max .i64), ((a_0 == (0 - b_2)) = true)]) (by kernel_rfl) (by kernel_rfl) ⟨h1, ok1 (beq_t c2)⟩
theorem tollwaylaw03_opposite_1 (a_0 : Int) (e_1 : Int) (b_2 : Int) (f_3 : Int) (h1 : InR .i64 (0 - b_2)) (c2 : ¬ (a_0 = (0 - b_2))) : Ret Tryd.prog G0 10 [.int .i64 a_0, .int .i64 e_1, .int .i64 b_2, .int .i64 f_3] (.bool false) [] :=
  Ret.of_view 400 (cs 3 ((.op none .w) :: (.op none .a) :: (.op none .c) :: (.op (some false) .c) :: (cs 4 []))) [] (ps := [(IntKind.min .i64 ≤ (0 - b_2) ∧ (0 - b_2) ≤ IntKind.max .i64), ((a_0 == (0 - b_2)) = false)]) (by kernel_rfl) (by kernel_rfl) ⟨h1, ok1 (beq_f c2)⟩
theorem tollwaylaw03_opposite_ret (a_0 : Int) (e_1 : Int) (b_2 : Int) (f_3 : Int) (r : Bool) (h : tollwaylaw03_opposite a_0 e_1 b_2 f_3 = some r) : Ret Tryd.prog G0 10 [.int .i64 a_0, .int .i64 e_1, .int .i64 b_2, .int .i64 f_3] (.bool r) [] := by
  unfold tollwaylaw03_opposite at h
  obtain ⟨h1, h⟩ := guard_some h
  rcases ite_some h with ⟨c2, h⟩ | ⟨c2, h⟩
  · simp only [Option.some.injEq] at h
    subst h
    exact tollwaylaw03_opposite_0 a_0 e_1 b_2 f_3 h1 c2
  · simp only [Option.some.injEq] at h
    subst h
    exact tollwaylaw03_opposite_1 a_0 e_1 b_2 f_3 h1 c2
noncomputable def tollwaylaw03_same_L2_step (a_0 : (List Int)) (b_1 : (List Int)) : Nat → Option (Nat ⊕ (Unit ⊕ Unit)) := fun k13 =>
  if (↑k13 : Int) < (↑a_0.length : Int) then
    (a_0[k13]?).bind fun x11 =>
    (b_1[k13]?).bind fun x13 =>
    if x11 = x13 then
      if InR .i64 ((↑k13 : Int) + 1) then
        some (Sum.inl (k13 + 1))
      else none
    else
      some (Sum.inr (Sum.inl ()))
  else
    some (Sum.inr (Sum.inr (())))
def tollwaylaw03_same_L2_H (a_0 : (List Int)) (b_1 : (List Int)) : Nat → St := fun (s : Nat) => S 26 [(0, .lst (fl e_i64 a_0) a_0.length), (1, .lst (fl e_i64 b_1) b_1.length), (12, .int .i64 (↑a_0.length : Int)), (13, .int .i64 (↑s : Int))] []
theorem tollwaylaw03_same_L2_0 (a_0 : (List Int)) (b_1 : (List Int)) (k13 : Nat) (c10 : (↑k13 : Int) < (↑a_0.length : Int)) (x11 : Int) (h12 : a_0[k13]? = some x11) (x13 : Int) (h14 : b_1[k13]? = some x13) (c15 : x11 = x13) (h16 : InR .i64 ((↑k13 : Int) + 1)) : Does Tryd.prog G0 0 (bodyAt Tryd.prog 20 [1, 1, 0, 1, 0, 0]) (tollwaylaw03_same_L2_H a_0 b_1 k13) .normal (S 26 [(0, .lst (fl e_i64 a_0) a_0.length), (1, .lst (fl e_i64 b_1) b_1.length), (12, .int .i64 (↑a_0.length : Int)), (13, .int .i64 ((↑k13 : Int) + 1))] []) :=
  Does.of_viewM 0 400 ((.op none .a) :: (.br true) :: (cs 4 ((.op none (.i k13)) :: (.op none (.v [.int .i64 x11])) :: (cs 2 [.op none (.i k13), .op none (.v [.int .i64 x13]), .op none .a, .br false, .op none .w, .op none .c])))) [] (ps := [((decide ((↑k13 : Int) < (↑a_0.length : Int))) = true), ((↑k13 : Int) = ((k13 : Nat) : Int) ∧ k13 < a_0.length), ((fl e_i64 a_0) ≠ []), (sub (fl e_i64 a_0) k13 1 = [.int .i64 x11]), ((↑k13 : Int) = ((k13 : Nat) : Int) ∧ k13 < b_1.length), ((fl e_i64 b_1) ≠ []), (sub (fl e_i64 b_1) k13 1 = [.int .i64 x13]), ((!(x11 == x13)) = false), (IntKind.min .i64 ≤ ((↑k13 : Int) + 1) ∧ ((↑k13 : Int) + 1) ≤ IntKind.max .i64)]) (by kernel_rfl) (by kernel_rfl) ⟨(decide_eq_true c10), ⟨rfl, get_lt h12⟩, (fl_ne (f := e_i64) (z := 0) (fun _ => rfl) h12), (fl_sub1 (f := e_i64) (fun _ => rfl) h12 rfl), ⟨rfl, get_lt h14⟩, (fl_ne (f := e_i64) (z := 0) (fun _ => rfl) h14), (fl_sub1 (f := e_i64) (fun _ => rfl) h14 rfl), (not_f (beq_t c15)), ok1 h16⟩
theorem tollwaylaw03_same_L2_1 (a_0 : (List Int)) (b_1 : (List Int)) (k13 : Nat) (c10 : (↑k13 : Int) < (↑a_0.length : Int)) (x11 : Int) (h12 : a_0[k13]? = some x11) (x13 : Int) (h14 : b_1[k13]? = some x13) (c15 : ¬ (x11 = x13)) : Does Tryd.prog G0 0 (bodyAt Tryd.prog 20 [1, 1, 0, 1, 0, 0]) (tollwaylaw03_same_L2_H a_0 b_1 k13) .ret (S 26 [(4, .bool false)] []) :=
  Does.of_viewM 0 400 ((.op none .a) :: (.br true) :: (cs 4 ((.op none (.i k13)) :: (.op none (.v [.int .i64 x11])) :: (cs 2 [.op none (.i k13), .op none (.v [.int .i64 x13]), .op none .a, .br true, .op none .c])))) [] (ps := [((decide ((↑k13 : Int) < (↑a_0.length : Int))) = true), ((↑k13 : Int) = ((k13 : Nat) : Int) ∧ k13 < a_0.length), ((fl e_i64 a_0) ≠ []), (sub (fl e_i64 a_0) k13 1 = [.int .i64 x11]), ((↑k13 : Int) = ((k13 : Nat) : Int) ∧ k13 < b_1.length), ((fl e_i64 b_1) ≠ []), (sub (fl e_i64 b_1) k13 1 = [.int .i64 x13]), ((!(x11 == x13)) = true)]) (by kernel_rfl) (by kernel_rfl) ⟨(decide_eq_true c10), ⟨rfl, get_lt h12⟩, (fl_ne (f := e_i64) (z := 0) (fun _ => rfl) h12), (fl_sub1 (f := e_i64) (fun _ => rfl) h12 rfl), ⟨rfl, get_lt h14⟩, (fl_ne (f := e_i64) (z := 0) (fun _ => rfl) h14), (fl_sub1 (f := e_i64) (fun _ => rfl) h14 rfl), ok1 (not_t (beq_f c15))⟩
theorem tollwaylaw03_same_L2_2 (a_0 : (List Int)) (b_1 : (List Int)) (k13 : Nat) (c10 : ¬ ((↑k13 : Int) < (↑a_0.length : Int))) : Does Tryd.prog G0 0 (bodyAt Tryd.prog 20 [1, 1, 0, 1, 0, 0]) (tollwaylaw03_same_L2_H a_0 b_1 k13) (.exit 0) (S 26 [] []) :=
  Does.of_viewM 0 400 [.op none .a, .br false] [] (ps := [((decide ((↑k13 : Int) < (↑a_0.length : Int))) = false)]) (by kernel_rfl) (by kernel_rfl) (ok1 (decide_eq_false c10))
def tollwaylaw03_same_L2_X (a_0 : (List Int)) (b_1 : (List Int)) : (Unit ⊕ Unit) → AEx := fun q => match q with | Sum.inl o => .ret | Sum.inr (o) => (.exit 0)
def tollwaylaw03_same_L2_E (a_0 : (List Int)) (b_1 : (List Int)) : (Unit ⊕ Unit) → St := fun q => match q with | Sum.inl o => S 26 [(4, .bool false)] [] | Sum.inr (o) => S 26 [] []
theorem tollwaylaw03_same_L2_does (a_0 : (List Int)) (b_1 : (List Int)) {s : Nat} {r : Unit ⊕ Unit} (h : lp (tollwaylaw03_same_L2_step a_0 b_1) s = some r) : Does Tryd.prog G0 0 (.loop (bodyAt Tryd.prog 20 [1, 1, 0, 1, 0, 0])) (tollwaylaw03_same_L2_H a_0 b_1 s) (tollwaylaw03_same_L2_X a_0 b_1 r) (tollwaylaw03_same_L2_E a_0 b_1 r) := by
  refine Does.lp (H := tollwaylaw03_same_L2_H a_0 b_1) (X := tollwaylaw03_same_L2_X a_0 b_1) (E := tollwaylaw03_same_L2_E a_0 b_1) (fun s s2 h => ?_) (fun s r h => ?_) h
  · revert h; revert s; intro k13 h
    unfold tollwaylaw03_same_L2_step at h
    try dsimp only at h
    rcases ite_some h with ⟨c10, h⟩ | ⟨c10, h⟩
    · obtain ⟨x11, h12, h⟩ := bind_some h
      obtain ⟨x13, h14, h⟩ := bind_some h
      rcases ite_some h with ⟨c15, h⟩ | ⟨c15, h⟩
      · obtain ⟨h16, h⟩ := guard_some h
        simp only [Option.some.injEq, Sum.inl.injEq] at h
        subst h
        exact tollwaylaw03_same_L2_0 a_0 b_1 k13 c10 x11 h12 x13 h14 c15 h16
      · simp at h
    · simp at h
  · revert h; revert s; intro k13 h
    unfold tollwaylaw03_same_L2_step at h
    try dsimp only at h
    rcases ite_some h with ⟨c10, h⟩ | ⟨c10, h⟩
    · obtain ⟨x11, h12, h⟩ := bind_some h
      obtain ⟨x13, h14, h⟩ := bind_some h
      rcases ite_some h with ⟨c15, h⟩ | ⟨c15, h⟩
      · obtain ⟨h16, h⟩ := guard_some h
        simp at h
      · simp only [Option.some.injEq, Sum.inr.injEq] at h
        subst h
        exact ⟨tollwaylaw03_same_L2_1 a_0 b_1 k13 c10 x11 h12 x13 h14 c15, by intro q; cases q⟩
    · simp only [Option.some.injEq, Sum.inr.injEq] at h
      subst h
      exact ⟨tollwaylaw03_same_L2_2 a_0 b_1 k13 c10, by intro q; cases q⟩
noncomputable def tollwaylaw03_same (a_0 : (List Int)) (b_1 : (List Int)) : Option Bool :=
  if (↑a_0.length : Int) = (↑b_1.length : Int) then
    (lp (tollwaylaw03_same_L2_step a_0 b_1) (0 : Nat)).bind fun qq => match qq with
    | Sum.inl o2 =>
      some false
    | Sum.inr (o2) =>
      some true
  else
    some false
theorem tollwaylaw03_same_0 (a_0 : (List Int)) (b_1 : (List Int)) (c1 : (↑a_0.length : Int) = (↑b_1.length : Int)) (o2 : Unit) (hl2 : lp (tollwaylaw03_same_L2_step a_0 b_1) (0 : Nat) = some (Sum.inl o2)) : Ret Tryd.prog G0 20 [.lst (fl e_i64 a_0) a_0.length, .lst (fl e_i64 b_1) b_1.length] (.bool false) [] :=
  Ret.of_view 400 (cs 5 ((.op none .a) :: (.br false) :: (cs 3 [.fcut 0 .ret [(4, .bool false)] [] [] [(0, .lst (fl e_i64 a_0) a_0.length), (1, .lst (fl e_i64 b_1) b_1.length), (12, .int .i64 (↑a_0.length : Int)), (13, .int .i64 (↑(0 : Nat) : Int))] []]))) [] (ps := [((!((↑a_0.length : Int) == (↑b_1.length : Int))) = false), ((.lst (fl e_i64 a_0) a_0.length : AV) = .lst (fl e_i64 a_0) a_0.length), ((.lst (fl e_i64 b_1) b_1.length : AV) = .lst (fl e_i64 b_1) b_1.length), ((.int .i64 (↑a_0.length : Int) : AV) = .int .i64 (↑a_0.length : Int)), ((.int .i64 0 : AV) = .int .i64 (↑(0 : Nat) : Int)), (Does Tryd.prog G0 0 (.loop (bodyAt Tryd.prog 20 [1, 1, 0, 1, 0, 0])) (S 26 [(0, .lst (fl e_i64 a_0) a_0.length), (1, .lst (fl e_i64 b_1) b_1.length), (12, .int .i64 (↑a_0.length : Int)), (13, .int .i64 (↑(0 : Nat) : Int))] []) .ret (S 26 [(4, .bool false)] []))]) (by kernel_rfl) (by kernel_rfl) ⟨(not_f (beq_t c1)), rfl, rfl, rfl, rfl, ok1 (tollwaylaw03_same_L2_does a_0 b_1 hl2)⟩
theorem tollwaylaw03_same_1 (a_0 : (List Int)) (b_1 : (List Int)) (c1 : (↑a_0.length : Int) = (↑b_1.length : Int)) (o2 : Unit) (hl2 : lp (tollwaylaw03_same_L2_step a_0 b_1) (0 : Nat) = some (Sum.inr (o2))) : Ret Tryd.prog G0 20 [.lst (fl e_i64 a_0) a_0.length, .lst (fl e_i64 b_1) b_1.length] (.bool true) [] :=
  Ret.of_view 400 (cs 5 ((.op none .a) :: (.br false) :: (cs 3 [.fcut 0 (.exit 0) [] [] [] [(0, .lst (fl e_i64 a_0) a_0.length), (1, .lst (fl e_i64 b_1) b_1.length), (12, .int .i64 (↑a_0.length : Int)), (13, .int .i64 (↑(0 : Nat) : Int))] [], .op none .c]))) [] (ps := [((!((↑a_0.length : Int) == (↑b_1.length : Int))) = false), ((.lst (fl e_i64 a_0) a_0.length : AV) = .lst (fl e_i64 a_0) a_0.length), ((.lst (fl e_i64 b_1) b_1.length : AV) = .lst (fl e_i64 b_1) b_1.length), ((.int .i64 (↑a_0.length : Int) : AV) = .int .i64 (↑a_0.length : Int)), ((.int .i64 0 : AV) = .int .i64 (↑(0 : Nat) : Int)), (Does Tryd.prog G0 0 (.loop (bodyAt Tryd.prog 20 [1, 1, 0, 1, 0, 0])) (S 26 [(0, .lst (fl e_i64 a_0) a_0.length), (1, .lst (fl e_i64 b_1) b_1.length), (12, .int .i64 (↑a_0.length : Int)), (13, .int .i64 (↑(0 : Nat) : Int))] []) (.exit 0) (S 26 [] []))]) (by kernel_rfl) (by kernel_rfl) ⟨(not_f (beq_t c1)), rfl, rfl, rfl, rfl, ok1 (tollwaylaw03_same_L2_does a_0 b_1 hl2)⟩
theorem tollwaylaw03_same_2 (a_0 : (List Int)) (b_1 : (List Int)) (c1 : ¬ ((↑a_0.length : Int) = (↑b_1.length : Int))) : Ret Tryd.prog G0 20 [.lst (fl e_i64 a_0) a_0.length, .lst (fl e_i64 b_1) b_1.length] (.bool false) [] :=
  Ret.of_view 400 (cs 5 [.op none .a, .br true, .op none .c]) [] (ps := [((!((↑a_0.length : Int) == (↑b_1.length : Int))) = true)]) (by kernel_rfl) (by kernel_rfl) (ok1 (not_t (beq_f c1)))
theorem tollwaylaw03_same_ret (a_0 : (List Int)) (b_1 : (List Int)) (r : Bool) (h : tollwaylaw03_same a_0 b_1 = some r) : Ret Tryd.prog G0 20 [.lst (fl e_i64 a_0) a_0.length, .lst (fl e_i64 b_1) b_1.length] (.bool r) [] := by
  unfold tollwaylaw03_same at h
  rcases ite_some h with ⟨c1, h⟩ | ⟨c1, h⟩
  · obtain ⟨qq, hl2, h⟩ := bind_some h
    rcases qq with o2 | o2
    · dsimp only at h
      simp only [Option.some.injEq] at h
      subst h
      exact tollwaylaw03_same_0 a_0 b_1 c1 o2 hl2
    · dsimp only at h
      simp only [Option.some.injEq] at h
      subst h
      exact tollwaylaw03_same_1 a_0 b_1 c1 o2 hl2
  · simp only [Option.some.injEq] at h
    subst h
    exact tollwaylaw03_same_2 a_0 b_1 c1
noncomputable def money_total_L1_step (l_0 : (List Int)) : (Int × Nat) → Option ((Int × Nat) ⊕ Int)
  | (v3, k8) =>
    if (↑k8 : Int) < (↑l_0.length : Int) then
      (l_0[k8]?).bind fun x8 =>
      if InR .i64 (v3 + x8) then
        if InR .i64 ((↑k8 : Int) + 1) then
          some (Sum.inl ((v3 + x8), (k8 + 1)))
        else none
      else none
    else
      some (Sum.inr v3)
def money_total_L1_H (l_0 : (List Int)) : (Int × Nat) → St := fun (s : (Int × Nat)) => S 17 [(3, .int .i64 s.1), (6, .lst (fl e_i64 l_0) l_0.length), (7, .int .i64 (↑l_0.length : Int)), (8, .int .i64 (↑s.2 : Int))] []
theorem money_total_L1_0 (l_0 : (List Int)) (v3 : Int) (k8 : Nat) (c7 : (↑k8 : Int) < (↑l_0.length : Int)) (x8 : Int) (h9 : l_0[k8]? = some x8) (h10 : InR .i64 (v3 + x8)) (h11 : InR .i64 ((↑k8 : Int) + 1)) : Does Tryd.prog G0 0 (bodyAt Tryd.prog 24 [1, 1, 0, 1, 0, 0]) (money_total_L1_H l_0 (v3, k8)) .normal (S 17 [(3, .int .i64 (v3 + x8)), (6, .lst (fl e_i64 l_0) l_0.length), (7, .int .i64 (↑l_0.length : Int)), (8, .int .i64 ((↑k8 : Int) + 1))] []) :=
  Does.of_viewM 0 400 ((.op none .a) :: (.br true) :: (.op none (.i k8)) :: (.op none (.v [.int .i64 x8])) :: (cs 3 [.op none .w, .op none .c, .op none .w, .op none .c])) [] (ps := [((decide ((↑k8 : Int) < (↑l_0.length : Int))) = true), ((↑k8 : Int) = ((k8 : Nat) : Int) ∧ k8 < l_0.length), ((fl e_i64 l_0) ≠ []), (sub (fl e_i64 l_0) k8 1 = [.int .i64 x8]), (IntKind.min .i64 ≤ (v3 + x8) ∧ (v3 + x8) ≤ IntKind.max .i64), (IntKind.min .i64 ≤ ((↑k8 : Int) + 1) ∧ ((↑k8 : Int) + 1) ≤ IntKind.max .i64)]) (by kernel_rfl) (by kernel_rfl) ⟨(decide_eq_true c7), ⟨rfl, get_lt h9⟩, (fl_ne (f := e_i64) (z := 0) (fun _ => rfl) h9), (fl_sub1 (f := e_i64) (fun _ => rfl) h9 rfl), h10, ok1 h11⟩
theorem money_total_L1_1 (l_0 : (List Int)) (v3 : Int) (k8 : Nat) (c7 : ¬ ((↑k8 : Int) < (↑l_0.length : Int))) : Does Tryd.prog G0 0 (bodyAt Tryd.prog 24 [1, 1, 0, 1, 0, 0]) (money_total_L1_H l_0 (v3, k8)) (.exit 0) (S 17 [(3, .int .i64 v3)] []) :=
  Does.of_viewM 0 400 [.op none .a, .br false] [] (ps := [((decide ((↑k8 : Int) < (↑l_0.length : Int))) = false)]) (by kernel_rfl) (by kernel_rfl) (ok1 (decide_eq_false c7))
def money_total_L1_X (l_0 : (List Int)) : Int → AEx := fun o => (.exit 0)
def money_total_L1_E (l_0 : (List Int)) : Int → St := fun o => S 17 [(3, .int .i64 o)] []
theorem money_total_L1_does (l_0 : (List Int)) {s : (Int × Nat)} {r : Int} (h : lp (money_total_L1_step l_0) s = some r) : Does Tryd.prog G0 0 (.loop (bodyAt Tryd.prog 24 [1, 1, 0, 1, 0, 0])) (money_total_L1_H l_0 s) (money_total_L1_X l_0 r) (money_total_L1_E l_0 r) := by
  refine Does.lp (H := money_total_L1_H l_0) (X := money_total_L1_X l_0) (E := money_total_L1_E l_0) (fun s s2 h => ?_) (fun s r h => ?_) h
  · obtain ⟨v3, k8⟩ := s
    unfold money_total_L1_step at h
    try dsimp only at h
    rcases ite_some h with ⟨c7, h⟩ | ⟨c7, h⟩
    · obtain ⟨x8, h9, h⟩ := bind_some h
      obtain ⟨h10, h⟩ := guard_some h
      obtain ⟨h11, h⟩ := guard_some h
      simp only [Option.some.injEq, Sum.inl.injEq] at h
      subst h
      exact money_total_L1_0 l_0 v3 k8 c7 x8 h9 h10 h11
    · simp at h
  · obtain ⟨v3, k8⟩ := s
    unfold money_total_L1_step at h
    try dsimp only at h
    rcases ite_some h with ⟨c7, h⟩ | ⟨c7, h⟩
    · obtain ⟨x8, h9, h⟩ := bind_some h
      obtain ⟨h10, h⟩ := guard_some h
      obtain ⟨h11, h⟩ := guard_some h
      simp at h
    · simp only [Option.some.injEq, Sum.inr.injEq] at h
      subst h
      exact ⟨money_total_L1_1 l_0 v3 k8 c7, by intro q; cases q⟩
noncomputable def money_total (l_0 : (List Int)) : Option Int :=
  (lp (money_total_L1_step l_0) ((0 : Int), (0 : Nat))).bind fun o1 =>
  some o1
theorem money_total_0 (l_0 : (List Int)) (o1 : Int) (hl1 : lp (money_total_L1_step l_0) ((0 : Int), (0 : Nat)) = some o1) : Ret Tryd.prog G0 24 [.lst (fl e_i64 l_0) l_0.length] (.int .i64 o1) [] :=
  Ret.of_view 400 (cs 5 ((.fcut 0 (.exit 0) [(3, .int .i64 o1)] [] [] [(3, .int .i64 (0 : Int)), (6, .lst (fl e_i64 l_0) l_0.length), (7, .int .i64 (↑l_0.length : Int)), (8, .int .i64 (↑(0 : Nat) : Int))] []) :: (cs 2 []))) [] (ps := [((.int .i64 0 : AV) = .int .i64 (0 : Int)), ((.lst (fl e_i64 l_0) l_0.length : AV) = .lst (fl e_i64 l_0) l_0.length), ((.int .i64 (↑l_0.length : Int) : AV) = .int .i64 (↑l_0.length : Int)), ((.int .i64 0 : AV) = .int .i64 (↑(0 : Nat) : Int)), (Does Tryd.prog G0 0 (.loop (bodyAt Tryd.prog 24 [1, 1, 0, 1, 0, 0])) (S 17 [(3, .int .i64 (0 : Int)), (6, .lst (fl e_i64 l_0) l_0.length), (7, .int .i64 (↑l_0.length : Int)), (8, .int .i64 (↑(0 : Nat) : Int))] []) (.exit 0) (S 17 [(3, .int .i64 o1)] []))]) (by kernel_rfl) (by kernel_rfl) ⟨rfl, rfl, rfl, rfl, ok1 (money_total_L1_does l_0 hl1)⟩
theorem money_total_ret (l_0 : (List Int)) (r : Int) (h : money_total l_0 = some r) : Ret Tryd.prog G0 24 [.lst (fl e_i64 l_0) l_0.length] (.int .i64 r) [] := by
  unfold money_total at h
  obtain ⟨o1, hl1, h⟩ := bind_some h
  simp only [Option.some.injEq] at h
  subst h
  exact money_total_0 l_0 o1 hl1
noncomputable def money_Sum_L2_step (l_0 : (List Int)) : Nat → Option (Nat ⊕ (Unit ⊕ Unit)) := fun k12 =>
  if (↑k12 : Int) < (↑l_0.length : Int) then
    (l_0[k12]?).bind fun x11 =>
    (money_Fits x11).bind fun r13 =>
    if r13 = true then
      if InR .i64 ((↑k12 : Int) + 1) then
        some (Sum.inl (k12 + 1))
      else none
    else
      some (Sum.inr (Sum.inl ()))
  else
    some (Sum.inr (Sum.inr (())))
def money_Sum_L2_H (l_0 : (List Int)) : Nat → St := fun (s : Nat) => S 26 [(0, .lst (fl e_i64 l_0) l_0.length), (10, .lst (fl e_i64 l_0) l_0.length), (11, .int .i64 (↑l_0.length : Int)), (12, .int .i64 (↑s : Int))] []
theorem money_Sum_L2_0 (l_0 : (List Int)) (k12 : Nat) (c10 : (↑k12 : Int) < (↑l_0.length : Int)) (x11 : Int) (h12 : l_0[k12]? = some x11) (r13 : Bool) (h14 : money_Fits x11 = some r13) (c15 : r13 = true) (h16 : InR .i64 ((↑k12 : Int) + 1)) : Does Tryd.prog G0 0 (bodyAt Tryd.prog 16 [1, 1, 0, 1, 0, 0]) (money_Sum_L2_H l_0 k12) .normal (S 26 [(0, .lst (fl e_i64 l_0) l_0.length), (10, .lst (fl e_i64 l_0) l_0.length), (11, .int .i64 (↑l_0.length : Int)), (12, .int .i64 ((↑k12 : Int) + 1))] []) :=
  Does.of_viewM 0 400 ((.op none .a) :: (.br true) :: (.op none (.i k12)) :: (.op none (.v [.int .i64 x11])) :: (cs 2 [.ret none [.int .i64 x11] (.bool r13) [], .op none .c, .br false, .op none .w, .op none .c])) [] (ps := [((decide ((↑k12 : Int) < (↑l_0.length : Int))) = true), ((↑k12 : Int) = ((k12 : Nat) : Int) ∧ k12 < l_0.length), ((fl e_i64 l_0) ≠ []), (sub (fl e_i64 l_0) k12 1 = [.int .i64 x11]), ((.int .i64 x11 : AV) = .int .i64 x11), (Ret Tryd.prog G0 18 [.int .i64 x11] (.bool r13) []), ((!r13) = false), (IntKind.min .i64 ≤ ((↑k12 : Int) + 1) ∧ ((↑k12 : Int) + 1) ≤ IntKind.max .i64)]) (by kernel_rfl) (by kernel_rfl) ⟨(decide_eq_true c10), ⟨rfl, get_lt h12⟩, (fl_ne (f := e_i64) (z := 0) (fun _ => rfl) h12), (fl_sub1 (f := e_i64) (fun _ => rfl) h12 rfl), rfl, (money_Fits_ret x11 r13 h14), (not_f c15), ok1 h16⟩
theorem money_Sum_L2_1 (l_0 : (List Int)) (k12 : Nat) (c10 : (↑k12 : Int) < (↑l_0.length : Int)) (x11 : Int) (h12 : l_0[k12]? = some x11) (r13 : Bool) (h14 : money_Fits x11 = some r13) (c15 : ¬ (r13 = true)) : Does Tryd.prog G0 0 (bodyAt Tryd.prog 16 [1, 1, 0, 1, 0, 0]) (money_Sum_L2_H l_0 k12) .ret (S 26 [(2, .int .i64 0), (3, .int .i64 13)] []) :=
  Does.of_viewM 0 400 ((.op none .a) :: (.br true) :: (.op none (.i k12)) :: (.op none (.v [.int .i64 x11])) :: (cs 2 ((.ret none [.int .i64 x11] (.bool r13) []) :: (.op none .c) :: (.br true) :: (cs 2 [])))) [] (ps := [((decide ((↑k12 : Int) < (↑l_0.length : Int))) = true), ((↑k12 : Int) = ((k12 : Nat) : Int) ∧ k12 < l_0.length), ((fl e_i64 l_0) ≠ []), (sub (fl e_i64 l_0) k12 1 = [.int .i64 x11]), ((.int .i64 x11 : AV) = .int .i64 x11), (Ret Tryd.prog G0 18 [.int .i64 x11] (.bool r13) []), ((!r13) = true)]) (by kernel_rfl) (by kernel_rfl) ⟨(decide_eq_true c10), ⟨rfl, get_lt h12⟩, (fl_ne (f := e_i64) (z := 0) (fun _ => rfl) h12), (fl_sub1 (f := e_i64) (fun _ => rfl) h12 rfl), rfl, (money_Fits_ret x11 r13 h14), ok1 (not_t (eq_false_of_ne_true c15))⟩
theorem money_Sum_L2_2 (l_0 : (List Int)) (k12 : Nat) (c10 : ¬ ((↑k12 : Int) < (↑l_0.length : Int))) : Does Tryd.prog G0 0 (bodyAt Tryd.prog 16 [1, 1, 0, 1, 0, 0]) (money_Sum_L2_H l_0 k12) (.exit 0) (S 26 [(0, .lst (fl e_i64 l_0) l_0.length)] []) :=
  Does.of_viewM 0 400 [.op none .a, .br false] [] (ps := [((decide ((↑k12 : Int) < (↑l_0.length : Int))) = false)]) (by kernel_rfl) (by kernel_rfl) (ok1 (decide_eq_false c10))
def money_Sum_L2_X (l_0 : (List Int)) : (Unit ⊕ Unit) → AEx := fun q => match q with | Sum.inl o => .ret | Sum.inr (o) => (.exit 0)
def money_Sum_L2_E (l_0 : (List Int)) : (Unit ⊕ Unit) → St := fun q => match q with | Sum.inl o => S 26 [(2, .int .i64 0), (3, .int .i64 13)] [] | Sum.inr (o) => S 26 [(0, .lst (fl e_i64 l_0) l_0.length)] []
theorem money_Sum_L2_does (l_0 : (List Int)) {s : Nat} {r : Unit ⊕ Unit} (h : lp (money_Sum_L2_step l_0) s = some r) : Does Tryd.prog G0 0 (.loop (bodyAt Tryd.prog 16 [1, 1, 0, 1, 0, 0])) (money_Sum_L2_H l_0 s) (money_Sum_L2_X l_0 r) (money_Sum_L2_E l_0 r) := by
  refine Does.lp (H := money_Sum_L2_H l_0) (X := money_Sum_L2_X l_0) (E := money_Sum_L2_E l_0) (fun s s2 h => ?_) (fun s r h => ?_) h
  · revert h; revert s; intro k12 h
    unfold money_Sum_L2_step at h
    try dsimp only at h
    rcases ite_some h with ⟨c10, h⟩ | ⟨c10, h⟩
    · obtain ⟨x11, h12, h⟩ := bind_some h
      obtain ⟨r13, h14, h⟩ := bind_some h
      rcases ite_some h with ⟨c15, h⟩ | ⟨c15, h⟩
      · obtain ⟨h16, h⟩ := guard_some h
        simp only [Option.some.injEq, Sum.inl.injEq] at h
        subst h
        exact money_Sum_L2_0 l_0 k12 c10 x11 h12 r13 h14 c15 h16
      · simp at h
    · simp at h
  · revert h; revert s; intro k12 h
    unfold money_Sum_L2_step at h
    try dsimp only at h
    rcases ite_some h with ⟨c10, h⟩ | ⟨c10, h⟩
    · obtain ⟨x11, h12, h⟩ := bind_some h
      obtain ⟨r13, h14, h⟩ := bind_some h
      rcases ite_some h with ⟨c15, h⟩ | ⟨c15, h⟩
      · obtain ⟨h16, h⟩ := guard_some h
        simp at h
      · simp only [Option.some.injEq, Sum.inr.injEq] at h
        subst h
        exact ⟨money_Sum_L2_1 l_0 k12 c10 x11 h12 r13 h14 c15, by intro q; cases q⟩
    · simp only [Option.some.injEq, Sum.inr.injEq] at h
      subst h
      exact ⟨money_Sum_L2_2 l_0 k12 c10, by intro q; cases q⟩
noncomputable def money_Sum (l_0 : (List Int)) : Option (Int × Int) :=
  if (↑l_0.length : Int) > (1024 : Int) then
    some (0, 3)
  else
    (lp (money_Sum_L2_step l_0) (0 : Nat)).bind fun qq => match qq with
    | Sum.inl o2 =>
      some (0, 13)
    | Sum.inr (o2) =>
      (money_total l_0).bind fun r17 =>
      (money_Fits r17).bind fun r19 =>
      if r19 = true then
        some (r17, 0)
      else
        some (0, 13)
theorem money_Sum_0 (l_0 : (List Int)) (c1 : (↑l_0.length : Int) > (1024 : Int)) : Ret Tryd.prog G0 16 [.lst (fl e_i64 l_0) l_0.length] (.tup [.int .i64 0, .int .i64 3]) [] :=
  Ret.of_view 400 (cs 4 ((.op none .a) :: (.br true) :: (cs 2 []))) [] (ps := [((decide ((↑l_0.length : Int) > (1024 : Int))) = true)]) (by kernel_rfl) (by kernel_rfl) (ok1 (decide_eq_true c1))
theorem money_Sum_1 (l_0 : (List Int)) (c1 : ¬ ((↑l_0.length : Int) > (1024 : Int))) (o2 : Unit) (hl2 : lp (money_Sum_L2_step l_0) (0 : Nat) = some (Sum.inl o2)) : Ret Tryd.prog G0 16 [.lst (fl e_i64 l_0) l_0.length] (.tup [.int .i64 0, .int .i64 13]) [] :=
  Ret.of_view 400 (cs 4 ((.op none .a) :: (.br false) :: (cs 3 [.fcut 0 .ret [(2, .int .i64 0), (3, .int .i64 13)] [] [] [(0, .lst (fl e_i64 l_0) l_0.length), (10, .lst (fl e_i64 l_0) l_0.length), (11, .int .i64 (↑l_0.length : Int)), (12, .int .i64 (↑(0 : Nat) : Int))] []]))) [] (ps := [((decide ((↑l_0.length : Int) > (1024 : Int))) = false), ((.lst (fl e_i64 l_0) l_0.length : AV) = .lst (fl e_i64 l_0) l_0.length), ((.lst (fl e_i64 l_0) l_0.length : AV) = .lst (fl e_i64 l_0) l_0.length), ((.int .i64 (↑l_0.length : Int) : AV) = .int .i64 (↑l_0.length : Int)), ((.int .i64 0 : AV) = .int .i64 (↑(0 : Nat) : Int)), (Does Tryd.prog G0 0 (.loop (bodyAt Tryd.prog 16 [1, 1, 0, 1, 0, 0])) (S 26 [(0, .lst (fl e_i64 l_0) l_0.length), (10, .lst (fl e_i64 l_0) l_0.length), (11, .int .i64 (↑l_0.length : Int)), (12, .int .i64 (↑(0 : Nat) : Int))] []) .ret (S 26 [(2, .int .i64 0), (3, .int .i64 13)] []))]) (by kernel_rfl) (by kernel_rfl) ⟨(decide_eq_false c1), rfl, rfl, rfl, rfl, ok1 (money_Sum_L2_does l_0 hl2)⟩
theorem money_Sum_2 (l_0 : (List Int)) (c1 : ¬ ((↑l_0.length : Int) > (1024 : Int))) (o2 : Unit) (hl2 : lp (money_Sum_L2_step l_0) (0 : Nat) = some (Sum.inr (o2))) (r17 : Int) (h18 : money_total l_0 = some r17) (r19 : Bool) (h20 : money_Fits r17 = some r19) (c21 : r19 = true) : Ret Tryd.prog G0 16 [.lst (fl e_i64 l_0) l_0.length] (.tup [.int .i64 r17, .int .i64 0]) [] :=
  Ret.of_view 400 (cs 4 ((.op none .a) :: (.br false) :: (cs 3 ((.fcut 0 (.exit 0) [(0, .lst (fl e_i64 l_0) l_0.length)] [] [] [(0, .lst (fl e_i64 l_0) l_0.length), (10, .lst (fl e_i64 l_0) l_0.length), (11, .int .i64 (↑l_0.length : Int)), (12, .int .i64 (↑(0 : Nat) : Int))] []) :: (.op none .c) :: (.ret none [.lst (fl e_i64 l_0) l_0.length] (.int .i64 r17) []) :: (cs 2 ((.ret none [.int .i64 r17] (.bool r19) []) :: (.op none .c) :: (.br false) :: (cs 3 []))))))) [] (ps := [((decide ((↑l_0.length : Int) > (1024 : Int))) = false), ((.lst (fl e_i64 l_0) l_0.length : AV) = .lst (fl e_i64 l_0) l_0.length), ((.lst (fl e_i64 l_0) l_0.length : AV) = .lst (fl e_i64 l_0) l_0.length), ((.int .i64 (↑l_0.length : Int) : AV) = .int .i64 (↑l_0.length : Int)), ((.int .i64 0 : AV) = .int .i64 (↑(0 : Nat) : Int)), (Does Tryd.prog G0 0 (.loop (bodyAt Tryd.prog 16 [1, 1, 0, 1, 0, 0])) (S 26 [(0, .lst (fl e_i64 l_0) l_0.length), (10, .lst (fl e_i64 l_0) l_0.length), (11, .int .i64 (↑l_0.length : Int)), (12, .int .i64 (↑(0 : Nat) : Int))] []) (.exit 0) (S 26 [(0, .lst (fl e_i64 l_0) l_0.length)] [])), ((.lst (fl e_i64 l_0) l_0.length : AV) = .lst (fl e_i64 l_0) l_0.length), (Ret Tryd.prog G0 24 [.lst (fl e_i64 l_0) l_0.length] (.int .i64 r17) []), ((.int .i64 r17 : AV) = .int .i64 r17), (Ret Tryd.prog G0 18 [.int .i64 r17] (.bool r19) []), ((!r19) = false)]) (by kernel_rfl) (by kernel_rfl) ⟨(decide_eq_false c1), rfl, rfl, rfl, rfl, (money_Sum_L2_does l_0 hl2), rfl, (money_total_ret l_0 r17 h18), rfl, (money_Fits_ret r17 r19 h20), ok1 (not_f c21)⟩
theorem money_Sum_3 (l_0 : (List Int)) (c1 : ¬ ((↑l_0.length : Int) > (1024 : Int))) (o2 : Unit) (hl2 : lp (money_Sum_L2_step l_0) (0 : Nat) = some (Sum.inr (o2))) (r17 : Int) (h18 : money_total l_0 = some r17) (r19 : Bool) (h20 : money_Fits r17 = some r19) (c21 : ¬ (r19 = true)) : Ret Tryd.prog G0 16 [.lst (fl e_i64 l_0) l_0.length] (.tup [.int .i64 0, .int .i64 13]) [] :=
  Ret.of_view 400 (cs 4 ((.op none .a) :: (.br false) :: (cs 3 ((.fcut 0 (.exit 0) [(0, .lst (fl e_i64 l_0) l_0.length)] [] [] [(0, .lst (fl e_i64 l_0) l_0.length), (10, .lst (fl e_i64 l_0) l_0.length), (11, .int .i64 (↑l_0.length : Int)), (12, .int .i64 (↑(0 : Nat) : Int))] []) :: (.op none .c) :: (.ret none [.lst (fl e_i64 l_0) l_0.length] (.int .i64 r17) []) :: (cs 2 ((.ret none [.int .i64 r17] (.bool r19) []) :: (.op none .c) :: (.br true) :: (cs 2 []))))))) [] (ps := [((decide ((↑l_0.length : Int) > (1024 : Int))) = false), ((.lst (fl e_i64 l_0) l_0.length : AV) = .lst (fl e_i64 l_0) l_0.length), ((.lst (fl e_i64 l_0) l_0.length : AV) = .lst (fl e_i64 l_0) l_0.length), ((.int .i64 (↑l_0.length : Int) : AV) = .int .i64 (↑l_0.length : Int)), ((.int .i64 0 : AV) = .int .i64 (↑(0 : Nat) : Int)), (Does Tryd.prog G0 0 (.loop (bodyAt Tryd.prog 16 [1, 1, 0, 1, 0, 0])) (S 26 [(0, .lst (fl e_i64 l_0) l_0.length), (10, .lst (fl e_i64 l_0) l_0.length), (11, .int .i64 (↑l_0.length : Int)), (12, .int .i64 (↑(0 : Nat) : Int))] []) (.exit 0) (S 26 [(0, .lst (fl e_i64 l_0) l_0.length)] [])), ((.lst (fl e_i64 l_0) l_0.length : AV) = .lst (fl e_i64 l_0) l_0.length), (Ret Tryd.prog G0 24 [.lst (fl e_i64 l_0) l_0.length] (.int .i64 r17) []), ((.int .i64 r17 : AV) = .int .i64 r17), (Ret Tryd.prog G0 18 [.int .i64 r17] (.bool r19) []), ((!r19) = true)]) (by kernel_rfl) (by kernel_rfl) ⟨(decide_eq_false c1), rfl, rfl, rfl, rfl, (money_Sum_L2_does l_0 hl2), rfl, (money_total_ret l_0 r17 h18), rfl, (money_Fits_ret r17 r19 h20), ok1 (not_t (eq_false_of_ne_true c21))⟩
theorem money_Sum_ret (l_0 : (List Int)) (r : (Int × Int)) (h : money_Sum l_0 = some r) : Ret Tryd.prog G0 16 [.lst (fl e_i64 l_0) l_0.length] (.tup [.int .i64 r.1, .int .i64 r.2]) [] := by
  unfold money_Sum at h
  rcases ite_some h with ⟨c1, h⟩ | ⟨c1, h⟩
  · simp only [Option.some.injEq] at h
    subst h
    exact money_Sum_0 l_0 c1
  · obtain ⟨qq, hl2, h⟩ := bind_some h
    rcases qq with o2 | o2
    · dsimp only at h
      simp only [Option.some.injEq] at h
      subst h
      exact money_Sum_1 l_0 c1 o2 hl2
    · dsimp only at h
      obtain ⟨r17, h18, h⟩ := bind_some h
      obtain ⟨r19, h20, h⟩ := bind_some h
      rcases ite_some h with ⟨c21, h⟩ | ⟨c21, h⟩
      · simp only [Option.some.injEq] at h
        subst h
        exact money_Sum_2 l_0 c1 o2 hl2 r17 h18 r19 h20 c21
      · simp only [Option.some.injEq] at h
        subst h
        exact money_Sum_3 l_0 c1 o2 hl2 r17 h18 r19 h20 c21
end Go.Proofs.YteljonodbkkckabDoor.Av
