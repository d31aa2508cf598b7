import Derived.Test.YtalobodhbbkgdabDoorAvX
import Derived.Test.YtalobodhbbkgdabDoorProg
import Derived.Tactics
import Derived.Test.YtalobodhbbkgdabDoorQ4
set_option linter.unusedVariables false
set_option linter.unusedSimpArgs false
set_option maxHeartbeats 4000000
namespace Go.Proofs.YtalobodhbbkgdabDoor.Av
open Go Go.Proofs
noncomputable def tollwayref26_IsSpan (i_0 : Tapi_Interval) : Option Bool :=
  if i_0.From ≥ (0 : Int) then
    if i_0.From < i_0.To then
      some (decide (i_0.To ≤ (68719476736 : Int)))
    else
      some false
  else
    some false
def tollwayref26_IsSpan_h1  : List CH := (cs 4 [.op none .a, .op none .c])
def tollwayref26_IsSpan_h2  : List CH := ((.op (some true) .c) :: (cs 3 ((.op none .a) :: (cs 2 []))))
theorem tollwayref26_IsSpan_0 (i_0 : Tapi_Interval) (c1 : i_0.From ≥ (0 : Int)) (c2 : i_0.From < i_0.To) : Ret Tryd.prog GT 72 [.agg (Tapi_Interval.enc i_0)] (.bool (decide (i_0.To ≤ (68719476736 : Int)))) [] :=
  Ret.of_view 400 ((tollwayref26_IsSpan_h1) ++ ((tollwayref26_IsSpan_h2) ++ ((.op (some true) .c) :: (.op none .c) :: (.op none .a) :: (cs 2 [])))) [] (ps := ([((decide (i_0.From ≥ (0 : Int))) = true)] ++ [((decide (i_0.From < i_0.To)) = true)])) (by kernel_rfl) (by kernel_rfl) (allOk_append.2 ⟨(ok1 (decide_eq_true c1)), (ok1 (decide_eq_true c2))⟩)
theorem tollwayref26_IsSpan_1 (i_0 : Tapi_Interval) (c1 : i_0.From ≥ (0 : Int)) (c2 : ¬ (i_0.From < i_0.To)) : Ret Tryd.prog GT 72 [.agg (Tapi_Interval.enc i_0)] (.bool false) [] :=
  Ret.of_view 400 ((tollwayref26_IsSpan_h1) ++ ((tollwayref26_IsSpan_h2) ++ ((.op (some false) .c) :: (cs 4 [])))) [] (ps := ([((decide (i_0.From ≥ (0 : Int))) = true)] ++ [((decide (i_0.From < i_0.To)) = false)])) (by kernel_rfl) (by kernel_rfl) (allOk_append.2 ⟨(ok1 (decide_eq_true c1)), (ok1 (decide_eq_false c2))⟩)
theorem tollwayref26_IsSpan_2 (i_0 : Tapi_Interval) (c1 : ¬ (i_0.From ≥ (0 : Int))) : Ret Tryd.prog GT 72 [.agg (Tapi_Interval.enc i_0)] (.bool false) [] :=
  Ret.of_view 400 ((tollwayref26_IsSpan_h1) ++ ((.op (some false) .c) :: (cs 11 []))) [] (ps := [((decide (i_0.From ≥ (0 : Int))) = false)]) (by kernel_rfl) (by kernel_rfl) (ok1 (decide_eq_false c1))
theorem tollwayref26_IsSpan_ret (i_0 : Tapi_Interval) (r : Bool) (h : tollwayref26_IsSpan i_0 = some r) : Ret Tryd.prog GT 72 [.agg (Tapi_Interval.enc i_0)] (.bool r) [] := by
  unfold tollwayref26_IsSpan at h
  rcases ite_some h with ⟨c1, h⟩ | ⟨c1, h⟩
  · rcases ite_some h with ⟨c2, h⟩ | ⟨c2, h⟩
    · simp only [Option.some.injEq] at h
      subst h
      exact tollwayref26_IsSpan_0 i_0 c1 c2
    · simp only [Option.some.injEq] at h
      subst h
      exact tollwayref26_IsSpan_1 i_0 c1 c2
  · simp only [Option.some.injEq] at h
    subst h
    exact tollwayref26_IsSpan_2 i_0 c1
noncomputable def span_Valid (i_0 : Tapi_Interval) : Option Bool :=
  if i_0.From ≥ (0 : Int) then
    if i_0.From < i_0.To then
      some (decide (i_0.To ≤ (68719476736 : Int)))
    else
      some false
  else
    some false
def span_Valid_h1  : List CH := (cs 4 [.op none .a, .op none .c])
def span_Valid_h2  : List CH := ((.op (some true) .c) :: (cs 3 ((.op none .a) :: (cs 2 []))))
theorem span_Valid_0 (i_0 : Tapi_Interval) (c1 : i_0.From ≥ (0 : Int)) (c2 : i_0.From < i_0.To) : Ret Tryd.prog GT 77 [.agg (Tapi_Interval.enc i_0)] (.bool (decide (i_0.To ≤ (68719476736 : Int)))) [] :=
  Ret.of_view 400 ((span_Valid_h1) ++ ((span_Valid_h2) ++ ((.op (some true) .c) :: (.op none .c) :: (.op none .a) :: (cs 2 [])))) [] (ps := ([((decide (i_0.From ≥ (0 : Int))) = true)] ++ [((decide (i_0.From < i_0.To)) = true)])) (by kernel_rfl) (by kernel_rfl) (allOk_append.2 ⟨(ok1 (decide_eq_true c1)), (ok1 (decide_eq_true c2))⟩)
theorem span_Valid_1 (i_0 : Tapi_Interval) (c1 : i_0.From ≥ (0 : Int)) (c2 : ¬ (i_0.From < i_0.To)) : Ret Tryd.prog GT 77 [.agg (Tapi_Interval.enc i_0)] (.bool false) [] :=
  Ret.of_view 400 ((span_Valid_h1) ++ ((span_Valid_h2) ++ ((.op (some false) .c) :: (cs 4 [])))) [] (ps := ([((decide (i_0.From ≥ (0 : Int))) = true)] ++ [((decide (i_0.From < i_0.To)) = false)])) (by kernel_rfl) (by kernel_rfl) (allOk_append.2 ⟨(ok1 (decide_eq_true c1)), (ok1 (decide_eq_false c2))⟩)
theorem span_Valid_2 (i_0 : Tapi_Interval) (c1 : ¬ (i_0.From ≥ (0 : Int))) : Ret Tryd.prog GT 77 [.agg (Tapi_Interval.enc i_0)] (.bool false) [] :=
  Ret.of_view 400 ((span_Valid_h1) ++ ((.op (some false) .c) :: (cs 11 []))) [] (ps := [((decide (i_0.From ≥ (0 : Int))) = false)]) (by kernel_rfl) (by kernel_rfl) (ok1 (decide_eq_false c1))
theorem span_Valid_ret (i_0 : Tapi_Interval) (r : Bool) (h : span_Valid i_0 = some r) : Ret Tryd.prog GT 77 [.agg (Tapi_Interval.enc i_0)] (.bool r) [] := by
  unfold span_Valid at h
  rcases ite_some h with ⟨c1, h⟩ | ⟨c1, h⟩
  · rcases ite_some h with ⟨c2, h⟩ | ⟨c2, h⟩
    · simp only [Option.some.injEq] at h
      subst h
      exact span_Valid_0 i_0 c1 c2
    · simp only [Option.some.injEq] at h
      subst h
      exact span_Valid_1 i_0 c1 c2
  · simp only [Option.some.injEq] at h
    subst h
    exact span_Valid_2 i_0 c1
noncomputable def span_Has_L1_step (l_0 : (List Tapi_Interval)) (t_1 : Int) : Nat → Option (Nat ⊕ (Int ⊕ Unit)) := fun k8 =>
  if (↑k8 : Int) < (↑l_0.length : Int) then
    (l_0[k8]?).bind fun x14 =>
    (span_Valid x14).bind fun r16 =>
    if r16 = true then
      if x14.From ≤ t_1 then
        if t_1 < x14.To then
          some (Sum.inr (Sum.inl (↑k8 : Int)))
        else
          if InR .i64 ((↑k8 : Int) + 1) then
            some (Sum.inl (k8 + 1))
          else none
      else
        if InR .i64 ((↑k8 : Int) + 1) then
          some (Sum.inl (k8 + 1))
        else none
    else
      if InR .i64 ((↑k8 : Int) + 1) then
        some (Sum.inl (k8 + 1))
      else none
  else
    some (Sum.inr (Sum.inr (())))
def span_Has_L1_H (l_0 : (List Tapi_Interval)) (t_1 : Int) : Nat → St := fun (s : Nat) => S 19 [(0, .lst (fl Tapi_Interval.enc l_0) l_0.length), (1, .fn (.func 76) [] [.ptr 0 0]), (7, .int .i64 (↑l_0.length : Int)), (8, .int .i64 (↑s : Int))] [{ c := [.int .i64 t_1], e := 3, ext := false, fz := 0, pl := true, o := false }]
theorem span_Has_L1_0 (l_0 : (List Tapi_Interval)) (t_1 : Int) (k8 : Nat) (c13 : (↑k8 : Int) < (↑l_0.length : Int)) (x14 : Tapi_Interval) (h15 : l_0[k8]? = some x14) (r16 : Bool) (h17 : span_Valid x14 = some r16) (c18 : r16 = true) (c19 : x14.From ≤ t_1) (c20 : t_1 < x14.To) : Does Tryd.prog GT 1 (bodyAt Tryd.prog 79 [1, 0, 1, 0, 0]) (span_Has_L1_H l_0 t_1 k8) .ret (S 19 [(4, .int .i64 (↑k8 : Int))] [{ c := [.int .i64 t_1], e := 3, ext := false, fz := 0, pl := true, o := false }]) :=
  Does.of_viewM 1 400 ((.op none .a) :: (.br true) :: (cs 5 ((.op none (.i k8)) :: (.op none (.v [.int .i64 x14.From, .int .i64 x14.To])) :: (cs 4 ((.ret none [.agg (Tapi_Interval.enc x14)] (.bool r16) []) :: (.op none .c) :: (.op (some true) .c) :: (cs 2 ((.op none .a) :: (cs 2 ((.op (some true) .c) :: (cs 2 ((.op none .a) :: (cs 2 ((.br true) :: (cs 2 [])))))))))))))) [0] (ps := [((decide ((↑k8 : Int) < (↑l_0.length : Int))) = true), ((↑k8 : Int) = ((k8 : Nat) : Int) ∧ k8 < l_0.length), ((fl Tapi_Interval.enc l_0) ≠ []), (sub (fl Tapi_Interval.enc l_0) (k8 * 2) 2 = [.int .i64 x14.From, .int .i64 x14.To]), ((.agg (Tapi_Interval.enc x14) : AV) = .agg (Tapi_Interval.enc x14)), (Ret Tryd.prog GT 77 [.agg (Tapi_Interval.enc x14)] (.bool r16) []), (r16 = true), ((decide (x14.From ≤ t_1)) = true), ((decide (t_1 < x14.To)) = true)]) (by kernel_rfl) (by kernel_rfl) ⟨(decide_eq_true c13), ⟨rfl, get_lt h15⟩, (fl_ne (f := Tapi_Interval.enc) (z := 1) (fun _ => rfl) h15), (fl_sub0 (f := Tapi_Interval.enc) (z := 2) (j := k8) (fun _ => rfl) h15 rfl), rfl, (span_Valid_ret x14 r16 h17), c18, (decide_eq_true c19), ok1 (decide_eq_true c20)⟩
theorem span_Has_L1_1 (l_0 : (List Tapi_Interval)) (t_1 : Int) (k8 : Nat) (c13 : (↑k8 : Int) < (↑l_0.length : Int)) (x14 : Tapi_Interval) (h15 : l_0[k8]? = some x14) (r16 : Bool) (h17 : span_Valid x14 = some r16) (c18 : r16 = true) (c19 : x14.From ≤ t_1) (c20 : ¬ (t_1 < x14.To)) (h21 : InR .i64 ((↑k8 : Int) + 1)) : Does Tryd.prog GT 1 (bodyAt Tryd.prog 79 [1, 0, 1, 0, 0]) (span_Has_L1_H l_0 t_1 k8) .normal (S 19 [(0, .lst (fl Tapi_Interval.enc l_0) l_0.length), (1, .fn (.func 76) [] [.ptr 0 0]), (7, .int .i64 (↑l_0.length : Int)), (8, .int .i64 ((↑k8 : Int) + 1))] [{ c := [.int .i64 t_1], e := 3, ext := false, fz := 0, pl := true, o := false }]) :=
  Does.of_viewM 1 400 ((.op none .a) :: (.br true) :: (cs 5 ((.op none (.i k8)) :: (.op none (.v [.int .i64 x14.From, .int .i64 x14.To])) :: (cs 4 ((.ret none [.agg (Tapi_Interval.enc x14)] (.bool r16) []) :: (.op none .c) :: (.op (some true) .c) :: (cs 2 ((.op none .a) :: (cs 2 ((.op (some true) .c) :: (cs 2 ((.op none .a) :: (cs 2 [.br false, .op none .w, .op none .c])))))))))))) [0] (ps := [((decide ((↑k8 : Int) < (↑l_0.length : Int))) = true), ((↑k8 : Int) = ((k8 : Nat) : Int) ∧ k8 < l_0.length), ((fl Tapi_Interval.enc l_0) ≠ []), (sub (fl Tapi_Interval.enc l_0) (k8 * 2) 2 = [.int .i64 x14.From, .int .i64 x14.To]), ((.agg (Tapi_Interval.enc x14) : AV) = .agg (Tapi_Interval.enc x14)), (Ret Tryd.prog GT 77 [.agg (Tapi_Interval.enc x14)] (.bool r16) []), (r16 = true), ((decide (x14.From ≤ t_1)) = true), ((decide (t_1 < x14.To)) = false), (IntKind.min .i64 ≤ ((↑k8 : Int) + 1) ∧ ((↑k8 : Int) + 1) ≤ IntKind.max .i64)]) (by kernel_rfl) (by kernel_rfl) ⟨(decide_eq_true c13), ⟨rfl, get_lt h15⟩, (fl_ne (f := Tapi_Interval.enc) (z := 1) (fun _ => rfl) h15), (fl_sub0 (f := Tapi_Interval.enc) (z := 2) (j := k8) (fun _ => rfl) h15 rfl), rfl, (span_Valid_ret x14 r16 h17), c18, (decide_eq_true c19), (decide_eq_false c20), ok1 h21⟩
theorem span_Has_L1_2 (l_0 : (List Tapi_Interval)) (t_1 : Int) (k8 : Nat) (c13 : (↑k8 : Int) < (↑l_0.length : Int)) (x14 : Tapi_Interval) (h15 : l_0[k8]? = some x14) (r16 : Bool) (h17 : span_Valid x14 = some r16) (c18 : r16 = true) (c19 : ¬ (x14.From ≤ t_1)) (h22 : InR .i64 ((↑k8 : Int) + 1)) : Does Tryd.prog GT 1 (bodyAt Tryd.prog 79 [1, 0, 1, 0, 0]) (span_Has_L1_H l_0 t_1 k8) .normal (S 19 [(0, .lst (fl Tapi_Interval.enc l_0) l_0.length), (1, .fn (.func 76) [] [.ptr 0 0]), (7, .int .i64 (↑l_0.length : Int)), (8, .int .i64 ((↑k8 : Int) + 1))] [{ c := [.int .i64 t_1], e := 3, ext := false, fz := 0, pl := true, o := false }]) :=
  Does.of_viewM 1 400 ((.op none .a) :: (.br true) :: (cs 5 ((.op none (.i k8)) :: (.op none (.v [.int .i64 x14.From, .int .i64 x14.To])) :: (cs 4 ((.ret none [.agg (Tapi_Interval.enc x14)] (.bool r16) []) :: (.op none .c) :: (.op (some true) .c) :: (cs 2 ((.op none .a) :: (cs 2 ((.op (some false) .c) :: (cs 5 [.br false, .op none .w, .op none .c])))))))))) [0] (ps := [((decide ((↑k8 : Int) < (↑l_0.length : Int))) = true), ((↑k8 : Int) = ((k8 : Nat) : Int) ∧ k8 < l_0.length), ((fl Tapi_Interval.enc l_0) ≠ []), (sub (fl Tapi_Interval.enc l_0) (k8 * 2) 2 = [.int .i64 x14.From, .int .i64 x14.To]), ((.agg (Tapi_Interval.enc x14) : AV) = .agg (Tapi_Interval.enc x14)), (Ret Tryd.prog GT 77 [.agg (Tapi_Interval.enc x14)] (.bool r16) []), (r16 = true), ((decide (x14.From ≤ t_1)) = false), (false = false), (IntKind.min .i64 ≤ ((↑k8 : Int) + 1) ∧ ((↑k8 : Int) + 1) ≤ IntKind.max .i64)]) (by kernel_rfl) (by kernel_rfl) ⟨(decide_eq_true c13), ⟨rfl, get_lt h15⟩, (fl_ne (f := Tapi_Interval.enc) (z := 1) (fun _ => rfl) h15), (fl_sub0 (f := Tapi_Interval.enc) (z := 2) (j := k8) (fun _ => rfl) h15 rfl), rfl, (span_Valid_ret x14 r16 h17), c18, (decide_eq_false c19), rfl, ok1 h22⟩
theorem span_Has_L1_3 (l_0 : (List Tapi_Interval)) (t_1 : Int) (k8 : Nat) (c13 : (↑k8 : Int) < (↑l_0.length : Int)) (x14 : Tapi_Interval) (h15 : l_0[k8]? = some x14) (r16 : Bool) (h17 : span_Valid x14 = some r16) (c18 : ¬ (r16 = true)) (h23 : InR .i64 ((↑k8 : Int) + 1)) : Does Tryd.prog GT 1 (bodyAt Tryd.prog 79 [1, 0, 1, 0, 0]) (span_Has_L1_H l_0 t_1 k8) .normal (S 19 [(0, .lst (fl Tapi_Interval.enc l_0) l_0.length), (1, .fn (.func 76) [] [.ptr 0 0]), (7, .int .i64 (↑l_0.length : Int)), (8, .int .i64 ((↑k8 : Int) + 1))] [{ c := [.int .i64 t_1], e := 3, ext := false, fz := 0, pl := true, o := false }]) :=
  Does.of_viewM 1 400 ((.op none .a) :: (.br true) :: (cs 5 ((.op none (.i k8)) :: (.op none (.v [.int .i64 x14.From, .int .i64 x14.To])) :: (cs 4 ((.ret none [.agg (Tapi_Interval.enc x14)] (.bool r16) []) :: (.op none .c) :: (.op (some false) .c) :: (cs 11 [.br false, .op none .w, .op none .c])))))) [0] (ps := [((decide ((↑k8 : Int) < (↑l_0.length : Int))) = true), ((↑k8 : Int) = ((k8 : Nat) : Int) ∧ k8 < l_0.length), ((fl Tapi_Interval.enc l_0) ≠ []), (sub (fl Tapi_Interval.enc l_0) (k8 * 2) 2 = [.int .i64 x14.From, .int .i64 x14.To]), ((.agg (Tapi_Interval.enc x14) : AV) = .agg (Tapi_Interval.enc x14)), (Ret Tryd.prog GT 77 [.agg (Tapi_Interval.enc x14)] (.bool r16) []), (r16 = false), (false = false), (IntKind.min .i64 ≤ ((↑k8 : Int) + 1) ∧ ((↑k8 : Int) + 1) ≤ IntKind.max .i64)]) (by kernel_rfl) (by kernel_rfl) ⟨(decide_eq_true c13), ⟨rfl, get_lt h15⟩, (fl_ne (f := Tapi_Interval.enc) (z := 1) (fun _ => rfl) h15), (fl_sub0 (f := Tapi_Interval.enc) (z := 2) (j := k8) (fun _ => rfl) h15 rfl), rfl, (span_Valid_ret x14 r16 h17), (eq_false_of_ne_true c18), rfl, ok1 h23⟩
theorem span_Has_L1_4 (l_0 : (List Tapi_Interval)) (t_1 : Int) (k8 : Nat) (c13 : ¬ ((↑k8 : Int) < (↑l_0.length : Int))) : Does Tryd.prog GT 1 (bodyAt Tryd.prog 79 [1, 0, 1, 0, 0]) (span_Has_L1_H l_0 t_1 k8) (.exit 0) (S 19 [] [{ c := [.int .i64 t_1], e := 3, ext := false, fz := 0, pl := true, o := false }]) :=
  Does.of_viewM 1 400 [.op none .a, .br false] [0] (ps := [((decide ((↑k8 : Int) < (↑l_0.length : Int))) = false)]) (by kernel_rfl) (by kernel_rfl) (ok1 (decide_eq_false c13))
def span_Has_L1_X (l_0 : (List Tapi_Interval)) (t_1 : Int) : (Int ⊕ Unit) → AEx := fun q => match q with | Sum.inl o => .ret | Sum.inr (o) => (.exit 0)
def span_Has_L1_E (l_0 : (List Tapi_Interval)) (t_1 : Int) : (Int ⊕ Unit) → St := fun q => match q with | Sum.inl o => S 19 [(4, .int .i64 o)] [{ c := [.int .i64 t_1], e := 3, ext := false, fz := 0, pl := true, o := false }] | Sum.inr (o) => S 19 [] [{ c := [.int .i64 t_1], e := 3, ext := false, fz := 0, pl := true, o := false }]
theorem span_Has_L1_does (l_0 : (List Tapi_Interval)) (t_1 : Int) {s : Nat} {r : Int ⊕ Unit} (h : lp (span_Has_L1_step l_0 t_1) s = some r) : Does Tryd.prog GT 1 (.loop (bodyAt Tryd.prog 79 [1, 0, 1, 0, 0])) (span_Has_L1_H l_0 t_1 s) (span_Has_L1_X l_0 t_1 r) (span_Has_L1_E l_0 t_1 r) := by
  refine Does.lp (H := span_Has_L1_H l_0 t_1) (X := span_Has_L1_X l_0 t_1) (E := span_Has_L1_E l_0 t_1) (fun s s2 h => ?_) (fun s r h => ?_) h
  · revert h; revert s; intro k8 h
    unfold span_Has_L1_step at h
    try dsimp only at h
    rcases ite_some h with ⟨c13, h⟩ | ⟨c13, h⟩
    · obtain ⟨x14, h15, h⟩ := bind_some h
      obtain ⟨r16, h17, h⟩ := bind_some h
      rcases ite_some h with ⟨c18, h⟩ | ⟨c18, h⟩
      · rcases ite_some h with ⟨c19, h⟩ | ⟨c19, h⟩
        · rcases ite_some h with ⟨c20, h⟩ | ⟨c20, h⟩
          · simp at h
          · obtain ⟨h21, h⟩ := guard_some h
            simp only [Option.some.injEq, Sum.inl.injEq] at h
            subst h
            have hq := span_Has_L1_1 l_0 t_1 k8 c13 x14 h15 r16 h17 c18 c19 c20 h21
            first | exact hq | exact Eq.mp (by simp only [span_Has_L1_H, List.length_set] <;> rfl) hq
        · obtain ⟨h22, h⟩ := guard_some h
          simp only [Option.some.injEq, Sum.inl.injEq] at h
          subst h
          have hq := span_Has_L1_2 l_0 t_1 k8 c13 x14 h15 r16 h17 c18 c19 h22
          first | exact hq | exact Eq.mp (by simp only [span_Has_L1_H, List.length_set] <;> rfl) hq
      · obtain ⟨h23, h⟩ := guard_some h
        simp only [Option.some.injEq, Sum.inl.injEq] at h
        subst h
        have hq := span_Has_L1_3 l_0 t_1 k8 c13 x14 h15 r16 h17 c18 h23
        first | exact hq | exact Eq.mp (by simp only [span_Has_L1_H, List.length_set] <;> rfl) hq
    · simp at h
  · revert h; revert s; intro k8 h
    unfold span_Has_L1_step at h
    try dsimp only at h
    rcases ite_some h with ⟨c13, h⟩ | ⟨c13, h⟩
    · obtain ⟨x14, h15, h⟩ := bind_some h
      obtain ⟨r16, h17, h⟩ := bind_some h
      rcases ite_some h with ⟨c18, h⟩ | ⟨c18, h⟩
      · rcases ite_some h with ⟨c19, h⟩ | ⟨c19, h⟩
        · rcases ite_some h with ⟨c20, h⟩ | ⟨c20, h⟩
          · simp only [Option.some.injEq, Sum.inr.injEq] at h
            subst h
            exact ⟨span_Has_L1_0 l_0 t_1 k8 c13 x14 h15 r16 h17 c18 c19 c20, by intro q; cases q⟩
          · obtain ⟨h21, h⟩ := guard_some h
            simp at h
        · obtain ⟨h22, h⟩ := guard_some h
          simp at h
      · obtain ⟨h23, h⟩ := guard_some h
        simp at h
    · simp only [Option.some.injEq, Sum.inr.injEq] at h
      subst h
      exact ⟨span_Has_L1_4 l_0 t_1 k8 c13, by intro q; cases q⟩
noncomputable def span_Has (l_0 : (List Tapi_Interval)) (t_1 : Int) : Option Bool :=
  (lp (span_Has_L1_step l_0 t_1) (0 : Nat)).bind fun qq => match qq with
  | Sum.inl o1 =>
    some (decide (o1 ≥ (0 : Int)))
  | Sum.inr (o1) =>
    some false
def span_Has_h1  : List CH := (cs 13 [])
def span_Has_p2 (l_0 : (List Tapi_Interval)) (t_1 : Int) : List Prop := [((.lst (fl Tapi_Interval.enc l_0) l_0.length : AV) = .lst (fl Tapi_Interval.enc l_0) l_0.length), ((.fn (.func 76) [] [.ptr 0 0] : AV) = .fn (.func 76) [] [.ptr 0 0]), ((.int .i64 (↑l_0.length : Int) : AV) = .int .i64 (↑l_0.length : Int)), ((.int .i64 0 : AV) = .int .i64 (↑(0 : Nat) : Int)), (({ c := [.int .i64 t_1], e := 3, ext := false, fz := 0, pl := true, o := false } : Blk) = renB [0] { c := [.int .i64 t_1], e := 3, ext := false, fz := 0, pl := true, o := false })]
theorem span_Has_p2q (l_0 : (List Tapi_Interval)) (t_1 : Int) : allOk (span_Has_p2 l_0 t_1) := ⟨rfl, rfl, rfl, rfl, ok1 rfl⟩
theorem span_Has_0 (l_0 : (List Tapi_Interval)) (t_1 : Int) (o1 : Int) (hl1 : lp (span_Has_L1_step l_0 t_1) (0 : Nat) = some (Sum.inl o1)) : Ret Tryd.prog GT 71 [.lst (fl Tapi_Interval.enc l_0) l_0.length, .int .i64 t_1] (.bool (decide (o1 ≥ (0 : Int)))) [] :=
  Ret.of_view 400 ((span_Has_h1) ++ ((.fcut 1 .ret [(4, .int .i64 o1)] [{ c := [.int .i64 t_1], e := 3, ext := false, fz := 0, pl := true, o := false }] [0] [(0, .lst (fl Tapi_Interval.enc l_0) l_0.length), (1, .fn (.func 76) [] [.ptr 0 0]), (7, .int .i64 (↑l_0.length : Int)), (8, .int .i64 (↑(0 : Nat) : Int))] [{ c := [.int .i64 t_1], e := 3, ext := false, fz := 0, pl := true, o := false }]) :: (.op none .a) :: (cs 2 []))) [] (ps := ((span_Has_p2 l_0 t_1) ++ [(Does Tryd.prog GT 1 (.loop (bodyAt Tryd.prog 79 [1, 0, 1, 0, 0])) (S 19 [(0, .lst (fl Tapi_Interval.enc l_0) l_0.length), (1, .fn (.func 76) [] [.ptr 0 0]), (7, .int .i64 (↑l_0.length : Int)), (8, .int .i64 (↑(0 : Nat) : Int))] [{ c := [.int .i64 t_1], e := 3, ext := false, fz := 0, pl := true, o := false }]) .ret (S 19 [(4, .int .i64 o1)] [{ c := [.int .i64 t_1], e := 3, ext := false, fz := 0, pl := true, o := false }]))])) (by kernel_rfl) (by kernel_rfl) (allOk_append.2 ⟨(span_Has_p2q l_0 t_1), (ok1 (span_Has_L1_does l_0 t_1 hl1))⟩)
theorem span_Has_1 (l_0 : (List Tapi_Interval)) (t_1 : Int) (o1 : Unit) (hl1 : lp (span_Has_L1_step l_0 t_1) (0 : Nat) = some (Sum.inr (o1))) : Ret Tryd.prog GT 71 [.lst (fl Tapi_Interval.enc l_0) l_0.length, .int .i64 t_1] (.bool false) [] :=
  Ret.of_view 400 ((span_Has_h1) ++ ((.fcut 1 (.exit 0) [] [{ c := [.int .i64 t_1], e := 3, ext := false, fz := 0, pl := true, o := false }] [0] [(0, .lst (fl Tapi_Interval.enc l_0) l_0.length), (1, .fn (.func 76) [] [.ptr 0 0]), (7, .int .i64 (↑l_0.length : Int)), (8, .int .i64 (↑(0 : Nat) : Int))] [{ c := [.int .i64 t_1], e := 3, ext := false, fz := 0, pl := true, o := false }]) :: (cs 4 []))) [] (ps := ((span_Has_p2 l_0 t_1) ++ [(Does Tryd.prog GT 1 (.loop (bodyAt Tryd.prog 79 [1, 0, 1, 0, 0])) (S 19 [(0, .lst (fl Tapi_Interval.enc l_0) l_0.length), (1, .fn (.func 76) [] [.ptr 0 0]), (7, .int .i64 (↑l_0.length : Int)), (8, .int .i64 (↑(0 : Nat) : Int))] [{ c := [.int .i64 t_1], e := 3, ext := false, fz := 0, pl := true, o := false }]) (.exit 0) (S 19 [] [{ c := [.int .i64 t_1], e := 3, ext := false, fz := 0, pl := true, o := false }]))])) (by kernel_rfl) (by kernel_rfl) (allOk_append.2 ⟨(span_Has_p2q l_0 t_1), (ok1 (span_Has_L1_does l_0 t_1 hl1))⟩)
theorem span_Has_ret (l_0 : (List Tapi_Interval)) (t_1 : Int) (r : Bool) (h : span_Has l_0 t_1 = some r) : Ret Tryd.prog GT 71 [.lst (fl Tapi_Interval.enc l_0) l_0.length, .int .i64 t_1] (.bool r) [] := by
  unfold span_Has at h
  obtain ⟨qq, hl1, h⟩ := bind_some h
  rcases qq with o1 | o1
  · dsimp only at h
    simp only [Option.some.injEq] at h
    subst h
    exact span_Has_0 l_0 t_1 o1 hl1
  · dsimp only at h
    simp only [Option.some.injEq] at h
    subst h
    exact span_Has_1 l_0 t_1 o1 hl1
noncomputable def account_owned_L1_step (l_0 : (List Tapi_Owned)) (vehicle_1 : (List UInt8)) (t_2 : Int) : Nat → Option (Nat ⊕ (Int ⊕ Unit)) := fun k11 =>
  if (↑k11 : Int) < (↑l_0.length : Int) then
    (l_0[k11]?).bind fun x19 =>
    if vehicle_1 = [] then
      if InR .i64 ((↑k11 : Int) + 1) then
        some (Sum.inl (k11 + 1))
      else none
    else
      if x19.Tag = vehicle_1 then
        (span_Has ([x19.Time] : List Tapi_Interval) t_2).bind fun r24 =>
        if r24 = true then
          some (Sum.inr (Sum.inl (↑k11 : Int)))
        else
          if InR .i64 ((↑k11 : Int) + 1) then
            some (Sum.inl (k11 + 1))
          else none
      else
        if x19.Plate = vehicle_1 then
          (span_Has ([x19.Time] : List Tapi_Interval) t_2).bind fun r29 =>
          if r29 = true then
            some (Sum.inr (Sum.inl (↑k11 : Int)))
          else
            if InR .i64 ((↑k11 : Int) + 1) then
              some (Sum.inl (k11 + 1))
            else none
        else
          if InR .i64 ((↑k11 : Int) + 1) then
            some (Sum.inl (k11 + 1))
          else none
  else
    some (Sum.inr (Sum.inr (())))
def account_owned_L1_H (l_0 : (List Tapi_Owned)) (vehicle_1 : (List UInt8)) (t_2 : Int) : Nat → St := fun (s : Nat) => S 39 [(1, .str vehicle_1), (2, .int .i64 t_2), (9, .lst (fl Tapi_Owned.enc l_0) l_0.length), (10, .int .i64 (↑l_0.length : Int)), (11, .int .i64 (↑s : Int))] []
theorem account_owned_L1_0 (l_0 : (List Tapi_Owned)) (vehicle_1 : (List UInt8)) (t_2 : Int) (k11 : Nat) (c18 : (↑k11 : Int) < (↑l_0.length : Int)) (x19 : Tapi_Owned) (h20 : l_0[k11]? = some x19) (c21 : vehicle_1 = []) (h22 : InR .i64 ((↑k11 : Int) + 1)) : Does Tryd.prog GT 0 (bodyAt Tryd.prog 62 [1, 0, 1, 0, 0]) (account_owned_L1_H l_0 vehicle_1 t_2 k11) .normal (S 39 [(1, .str vehicle_1), (2, .int .i64 t_2), (9, .lst (fl Tapi_Owned.enc l_0) l_0.length), (10, .int .i64 (↑l_0.length : Int)), (11, .int .i64 ((↑k11 : Int) + 1))] []) :=
  Does.of_viewM 0 400 ((.op none .a) :: (.br true) :: (.op none .c) :: (.op none (.i k11)) :: (.op none (.v [.str x19.Tag, .str x19.Plate, .int .i64 x19.Time.From, .int .i64 x19.Time.To])) :: (cs 4 ((.op none .a) :: (.op none .c) :: (.op (some false) .c) :: (cs 17 [.br false, .op none .w, .op none .c])))) [] (ps := [((decide ((↑k11 : Int) < (↑l_0.length : Int))) = true), ((↑k11 : Int) = ((k11 : Nat) : Int) ∧ k11 < l_0.length), ((fl Tapi_Owned.enc l_0) ≠ []), (sub (fl Tapi_Owned.enc l_0) (k11 * 4) 4 = [.str x19.Tag, .str x19.Plate, .int .i64 x19.Time.From, .int .i64 x19.Time.To]), ((!(vehicle_1 == [])) = false), (false = false), (IntKind.min .i64 ≤ ((↑k11 : Int) + 1) ∧ ((↑k11 : Int) + 1) ≤ IntKind.max .i64)]) (by kernel_rfl) (by kernel_rfl) ⟨(decide_eq_true c18), ⟨rfl, get_lt h20⟩, (fl_ne (f := Tapi_Owned.enc) (z := 3) (fun _ => rfl) h20), (fl_sub0 (f := Tapi_Owned.enc) (z := 4) (j := k11) (fun _ => rfl) h20 rfl), (not_f (beq_t c21)), rfl, ok1 h22⟩
theorem account_owned_L1_1 (l_0 : (List Tapi_Owned)) (vehicle_1 : (List UInt8)) (t_2 : Int) (k11 : Nat) (c18 : (↑k11 : Int) < (↑l_0.length : Int)) (x19 : Tapi_Owned) (h20 : l_0[k11]? = some x19) (c21 : ¬ (vehicle_1 = [])) (c23 : x19.Tag = vehicle_1) (r24 : Bool) (h25 : span_Has ([x19.Time] : List Tapi_Interval) t_2 = some r24) (c26 : r24 = true) : Does Tryd.prog GT 0 (bodyAt Tryd.prog 62 [1, 0, 1, 0, 0]) (account_owned_L1_H l_0 vehicle_1 t_2 k11) .ret (S 39 [(6, .int .i64 (↑k11 : Int))] []) :=
  Does.of_viewM 0 400 ((.op none .a) :: (.br true) :: (.op none .c) :: (.op none (.i k11)) :: (.op none (.v [.str x19.Tag, .str x19.Plate, .int .i64 x19.Time.From, .int .i64 x19.Time.To])) :: (cs 4 ((.op none .a) :: (.op none .c) :: (.op (some true) .c) :: (cs 2 ((.op none .a) :: (.op none .c) :: (.op (some true) .c) :: (cs 10 ((.ret none [.lst [.int .i64 x19.Time.From, .int .i64 x19.Time.To] 1, .int .i64 t_2] (.bool r24) []) :: (.op none .c) :: (.br true) :: (cs 2 [])))))))) [] (ps := [((decide ((↑k11 : Int) < (↑l_0.length : Int))) = true), ((↑k11 : Int) = ((k11 : Nat) : Int) ∧ k11 < l_0.length), ((fl Tapi_Owned.enc l_0) ≠ []), (sub (fl Tapi_Owned.enc l_0) (k11 * 4) 4 = [.str x19.Tag, .str x19.Plate, .int .i64 x19.Time.From, .int .i64 x19.Time.To]), ((!(vehicle_1 == [])) = true), ((x19.Tag == vehicle_1) = true), (sub [.int .i64 x19.Time.From, .int .i64 x19.Time.To] 0 2 = [.int .i64 x19.Time.From, .int .i64 x19.Time.To] ∧ 1 = 1 ∧ 0 + 2 ≤ List.length ([.int .i64 x19.Time.From, .int .i64 x19.Time.To] : List AV) ∧ 1 ≤ 1), ((.int .i64 t_2 : AV) = .int .i64 t_2), (datBlks []), (Ret Tryd.prog GT 71 [.lst [.int .i64 x19.Time.From, .int .i64 x19.Time.To] 1, .int .i64 t_2] (.bool r24) []), (r24 = true)]) (by kernel_rfl) (by kernel_rfl) ⟨(decide_eq_true c18), ⟨rfl, get_lt h20⟩, (fl_ne (f := Tapi_Owned.enc) (z := 3) (fun _ => rfl) h20), (fl_sub0 (f := Tapi_Owned.enc) (z := 4) (j := k11) (fun _ => rfl) h20 rfl), (not_t (beq_f c21)), (beq_t c23), ⟨rfl, rfl, Nat.le_of_ble_eq_true rfl, Nat.le_of_ble_eq_true rfl⟩, rfl, trivial, (span_Has_ret ([x19.Time] : List Tapi_Interval) t_2 r24 h25), ok1 c26⟩
theorem account_owned_L1_2 (l_0 : (List Tapi_Owned)) (vehicle_1 : (List UInt8)) (t_2 : Int) (k11 : Nat) (c18 : (↑k11 : Int) < (↑l_0.length : Int)) (x19 : Tapi_Owned) (h20 : l_0[k11]? = some x19) (c21 : ¬ (vehicle_1 = [])) (c23 : x19.Tag = vehicle_1) (r24 : Bool) (h25 : span_Has ([x19.Time] : List Tapi_Interval) t_2 = some r24) (c26 : ¬ (r24 = true)) (h27 : InR .i64 ((↑k11 : Int) + 1)) : Does Tryd.prog GT 0 (bodyAt Tryd.prog 62 [1, 0, 1, 0, 0]) (account_owned_L1_H l_0 vehicle_1 t_2 k11) .normal (S 39 [(1, .str vehicle_1), (2, .int .i64 t_2), (9, .lst (fl Tapi_Owned.enc l_0) l_0.length), (10, .int .i64 (↑l_0.length : Int)), (11, .int .i64 ((↑k11 : Int) + 1))] []) :=
  Does.of_viewM 0 400 ((.op none .a) :: (.br true) :: (.op none .c) :: (.op none (.i k11)) :: (.op none (.v [.str x19.Tag, .str x19.Plate, .int .i64 x19.Time.From, .int .i64 x19.Time.To])) :: (cs 4 ((.op none .a) :: (.op none .c) :: (.op (some true) .c) :: (cs 2 ((.op none .a) :: (.op none .c) :: (.op (some true) .c) :: (cs 10 [.ret none [.lst [.int .i64 x19.Time.From, .int .i64 x19.Time.To] 1, .int .i64 t_2] (.bool r24) [], .op none .c, .br false, .op none .w, .op none .c])))))) [] (ps := [((decide ((↑k11 : Int) < (↑l_0.length : Int))) = true), ((↑k11 : Int) = ((k11 : Nat) : Int) ∧ k11 < l_0.length), ((fl Tapi_Owned.enc l_0) ≠ []), (sub (fl Tapi_Owned.enc l_0) (k11 * 4) 4 = [.str x19.Tag, .str x19.Plate, .int .i64 x19.Time.From, .int .i64 x19.Time.To]), ((!(vehicle_1 == [])) = true), ((x19.Tag == vehicle_1) = true), (sub [.int .i64 x19.Time.From, .int .i64 x19.Time.To] 0 2 = [.int .i64 x19.Time.From, .int .i64 x19.Time.To] ∧ 1 = 1 ∧ 0 + 2 ≤ List.length ([.int .i64 x19.Time.From, .int .i64 x19.Time.To] : List AV) ∧ 1 ≤ 1), ((.int .i64 t_2 : AV) = .int .i64 t_2), (datBlks []), (Ret Tryd.prog GT 71 [.lst [.int .i64 x19.Time.From, .int .i64 x19.Time.To] 1, .int .i64 t_2] (.bool r24) []), (r24 = false), (IntKind.min .i64 ≤ ((↑k11 : Int) + 1) ∧ ((↑k11 : Int) + 1) ≤ IntKind.max .i64)]) (by kernel_rfl) (by kernel_rfl) ⟨(decide_eq_true c18), ⟨rfl, get_lt h20⟩, (fl_ne (f := Tapi_Owned.enc) (z := 3) (fun _ => rfl) h20), (fl_sub0 (f := Tapi_Owned.enc) (z := 4) (j := k11) (fun _ => rfl) h20 rfl), (not_t (beq_f c21)), (beq_t c23), ⟨rfl, rfl, Nat.le_of_ble_eq_true rfl, Nat.le_of_ble_eq_true rfl⟩, rfl, trivial, (span_Has_ret ([x19.Time] : List Tapi_Interval) t_2 r24 h25), (eq_false_of_ne_true c26), ok1 h27⟩
theorem account_owned_L1_3 (l_0 : (List Tapi_Owned)) (vehicle_1 : (List UInt8)) (t_2 : Int) (k11 : Nat) (c18 : (↑k11 : Int) < (↑l_0.length : Int)) (x19 : Tapi_Owned) (h20 : l_0[k11]? = some x19) (c21 : ¬ (vehicle_1 = [])) (c23 : ¬ (x19.Tag = vehicle_1)) (c28 : x19.Plate = vehicle_1) (r29 : Bool) (h30 : span_Has ([x19.Time] : List Tapi_Interval) t_2 = some r29) (c31 : r29 = true) : Does Tryd.prog GT 0 (bodyAt Tryd.prog 62 [1, 0, 1, 0, 0]) (account_owned_L1_H l_0 vehicle_1 t_2 k11) .ret (S 39 [(6, .int .i64 (↑k11 : Int))] []) :=
  Does.of_viewM 0 400 ((.op none .a) :: (.br true) :: (.op none .c) :: (.op none (.i k11)) :: (.op none (.v [.str x19.Tag, .str x19.Plate, .int .i64 x19.Time.From, .int .i64 x19.Time.To])) :: (cs 4 ((.op none .a) :: (.op none .c) :: (.op (some true) .c) :: (cs 2 ((.op none .a) :: (.op none .c) :: (.op (some false) .c) :: (cs 2 ((.op none .a) :: (cs 3 ((.op (some true) .c) :: (cs 3 ((.ret none [.lst [.int .i64 x19.Time.From, .int .i64 x19.Time.To] 1, .int .i64 t_2] (.bool r29) []) :: (.op none .c) :: (.br true) :: (cs 2 [])))))))))))) [] (ps := [((decide ((↑k11 : Int) < (↑l_0.length : Int))) = true), ((↑k11 : Int) = ((k11 : Nat) : Int) ∧ k11 < l_0.length), ((fl Tapi_Owned.enc l_0) ≠ []), (sub (fl Tapi_Owned.enc l_0) (k11 * 4) 4 = [.str x19.Tag, .str x19.Plate, .int .i64 x19.Time.From, .int .i64 x19.Time.To]), ((!(vehicle_1 == [])) = true), ((x19.Tag == vehicle_1) = false), ((x19.Plate == vehicle_1) = true), (sub [.int .i64 x19.Time.From, .int .i64 x19.Time.To] 0 2 = [.int .i64 x19.Time.From, .int .i64 x19.Time.To] ∧ 1 = 1 ∧ 0 + 2 ≤ List.length ([.int .i64 x19.Time.From, .int .i64 x19.Time.To] : List AV) ∧ 1 ≤ 1), ((.int .i64 t_2 : AV) = .int .i64 t_2), (datBlks []), (Ret Tryd.prog GT 71 [.lst [.int .i64 x19.Time.From, .int .i64 x19.Time.To] 1, .int .i64 t_2] (.bool r29) []), (r29 = true)]) (by kernel_rfl) (by kernel_rfl) ⟨(decide_eq_true c18), ⟨rfl, get_lt h20⟩, (fl_ne (f := Tapi_Owned.enc) (z := 3) (fun _ => rfl) h20), (fl_sub0 (f := Tapi_Owned.enc) (z := 4) (j := k11) (fun _ => rfl) h20 rfl), (not_t (beq_f c21)), (beq_f c23), (beq_t c28), ⟨rfl, rfl, Nat.le_of_ble_eq_true rfl, Nat.le_of_ble_eq_true rfl⟩, rfl, trivial, (span_Has_ret ([x19.Time] : List Tapi_Interval) t_2 r29 h30), ok1 c31⟩
theorem account_owned_L1_4 (l_0 : (List Tapi_Owned)) (vehicle_1 : (List UInt8)) (t_2 : Int) (k11 : Nat) (c18 : (↑k11 : Int) < (↑l_0.length : Int)) (x19 : Tapi_Owned) (h20 : l_0[k11]? = some x19) (c21 : ¬ (vehicle_1 = [])) (c23 : ¬ (x19.Tag = vehicle_1)) (c28 : x19.Plate = vehicle_1) (r29 : Bool) (h30 : span_Has ([x19.Time] : List Tapi_Interval) t_2 = some r29) (c31 : ¬ (r29 = true)) (h32 : InR .i64 ((↑k11 : Int) + 1)) : Does Tryd.prog GT 0 (bodyAt Tryd.prog 62 [1, 0, 1, 0, 0]) (account_owned_L1_H l_0 vehicle_1 t_2 k11) .normal (S 39 [(1, .str vehicle_1), (2, .int .i64 t_2), (9, .lst (fl Tapi_Owned.enc l_0) l_0.length), (10, .int .i64 (↑l_0.length : Int)), (11, .int .i64 ((↑k11 : Int) + 1))] []) :=
  Does.of_viewM 0 400 ((.op none .a) :: (.br true) :: (.op none .c) :: (.op none (.i k11)) :: (.op none (.v [.str x19.Tag, .str x19.Plate, .int .i64 x19.Time.From, .int .i64 x19.Time.To])) :: (cs 4 ((.op none .a) :: (.op none .c) :: (.op (some true) .c) :: (cs 2 ((.op none .a) :: (.op none .c) :: (.op (some false) .c) :: (cs 2 ((.op none .a) :: (cs 3 ((.op (some true) .c) :: (cs 3 [.ret none [.lst [.int .i64 x19.Time.From, .int .i64 x19.Time.To] 1, .int .i64 t_2] (.bool r29) [], .op none .c, .br false, .op none .w, .op none .c])))))))))) [] (ps := [((decide ((↑k11 : Int) < (↑l_0.length : Int))) = true), ((↑k11 : Int) = ((k11 : Nat) : Int) ∧ k11 < l_0.length), ((fl Tapi_Owned.enc l_0) ≠ []), (sub (fl Tapi_Owned.enc l_0) (k11 * 4) 4 = [.str x19.Tag, .str x19.Plate, .int .i64 x19.Time.From, .int .i64 x19.Time.To]), ((!(vehicle_1 == [])) = true), ((x19.Tag == vehicle_1) = false), ((x19.Plate == vehicle_1) = true), (sub [.int .i64 x19.Time.From, .int .i64 x19.Time.To] 0 2 = [.int .i64 x19.Time.From, .int .i64 x19.Time.To] ∧ 1 = 1 ∧ 0 + 2 ≤ List.length ([.int .i64 x19.Time.From, .int .i64 x19.Time.To] : List AV) ∧ 1 ≤ 1), ((.int .i64 t_2 : AV) = .int .i64 t_2), (datBlks []), (Ret Tryd.prog GT 71 [.lst [.int .i64 x19.Time.From, .int .i64 x19.Time.To] 1, .int .i64 t_2] (.bool r29) []), (r29 = false), (IntKind.min .i64 ≤ ((↑k11 : Int) + 1) ∧ ((↑k11 : Int) + 1) ≤ IntKind.max .i64)]) (by kernel_rfl) (by kernel_rfl) ⟨(decide_eq_true c18), ⟨rfl, get_lt h20⟩, (fl_ne (f := Tapi_Owned.enc) (z := 3) (fun _ => rfl) h20), (fl_sub0 (f := Tapi_Owned.enc) (z := 4) (j := k11) (fun _ => rfl) h20 rfl), (not_t (beq_f c21)), (beq_f c23), (beq_t c28), ⟨rfl, rfl, Nat.le_of_ble_eq_true rfl, Nat.le_of_ble_eq_true rfl⟩, rfl, trivial, (span_Has_ret ([x19.Time] : List Tapi_Interval) t_2 r29 h30), (eq_false_of_ne_true c31), ok1 h32⟩
theorem account_owned_L1_5 (l_0 : (List Tapi_Owned)) (vehicle_1 : (List UInt8)) (t_2 : Int) (k11 : Nat) (c18 : (↑k11 : Int) < (↑l_0.length : Int)) (x19 : Tapi_Owned) (h20 : l_0[k11]? = some x19) (c21 : ¬ (vehicle_1 = [])) (c23 : ¬ (x19.Tag = vehicle_1)) (c28 : ¬ (x19.Plate = vehicle_1)) (h33 : InR .i64 ((↑k11 : Int) + 1)) : Does Tryd.prog GT 0 (bodyAt Tryd.prog 62 [1, 0, 1, 0, 0]) (account_owned_L1_H l_0 vehicle_1 t_2 k11) .normal (S 39 [(1, .str vehicle_1), (2, .int .i64 t_2), (9, .lst (fl Tapi_Owned.enc l_0) l_0.length), (10, .int .i64 (↑l_0.length : Int)), (11, .int .i64 ((↑k11 : Int) + 1))] []) :=
  Does.of_viewM 0 400 ((.op none .a) :: (.br true) :: (.op none .c) :: (.op none (.i k11)) :: (.op none (.v [.str x19.Tag, .str x19.Plate, .int .i64 x19.Time.From, .int .i64 x19.Time.To])) :: (cs 4 ((.op none .a) :: (.op none .c) :: (.op (some true) .c) :: (cs 2 ((.op none .a) :: (.op none .c) :: (.op (some false) .c) :: (cs 2 ((.op none .a) :: (cs 3 ((.op (some false) .c) :: (cs 5 [.br false, .op none .w, .op none .c])))))))))) [] (ps := [((decide ((↑k11 : Int) < (↑l_0.length : Int))) = true), ((↑k11 : Int) = ((k11 : Nat) : Int) ∧ k11 < l_0.length), ((fl Tapi_Owned.enc l_0) ≠ []), (sub (fl Tapi_Owned.enc l_0) (k11 * 4) 4 = [.str x19.Tag, .str x19.Plate, .int .i64 x19.Time.From, .int .i64 x19.Time.To]), ((!(vehicle_1 == [])) = true), ((x19.Tag == vehicle_1) = false), ((x19.Plate == vehicle_1) = false), (false = false), (IntKind.min .i64 ≤ ((↑k11 : Int) + 1) ∧ ((↑k11 : Int) + 1) ≤ IntKind.max .i64)]) (by kernel_rfl) (by kernel_rfl) ⟨(decide_eq_true c18), ⟨rfl, get_lt h20⟩, (fl_ne (f := Tapi_Owned.enc) (z := 3) (fun _ => rfl) h20), (fl_sub0 (f := Tapi_Owned.enc) (z := 4) (j := k11) (fun _ => rfl) h20 rfl), (not_t (beq_f c21)), (beq_f c23), (beq_f c28), rfl, ok1 h33⟩
theorem account_owned_L1_6 (l_0 : (List Tapi_Owned)) (vehicle_1 : (List UInt8)) (t_2 : Int) (k11 : Nat) (c18 : ¬ ((↑k11 : Int) < (↑l_0.length : Int))) : Does Tryd.prog GT 0 (bodyAt Tryd.prog 62 [1, 0, 1, 0, 0]) (account_owned_L1_H l_0 vehicle_1 t_2 k11) (.exit 0) (S 39 [] []) :=
  Does.of_viewM 0 400 [.op none .a, .br false] [] (ps := [((decide ((↑k11 : Int) < (↑l_0.length : Int))) = false)]) (by kernel_rfl) (by kernel_rfl) (ok1 (decide_eq_false c18))
def account_owned_L1_X (l_0 : (List Tapi_Owned)) (vehicle_1 : (List UInt8)) (t_2 : Int) : (Int ⊕ Unit) → AEx := fun q => match q with | Sum.inl o => .ret | Sum.inr (o) => (.exit 0)
def account_owned_L1_E (l_0 : (List Tapi_Owned)) (vehicle_1 : (List UInt8)) (t_2 : Int) : (Int ⊕ Unit) → St := fun q => match q with | Sum.inl o => S 39 [(6, .int .i64 o)] [] | Sum.inr (o) => S 39 [] []
theorem account_owned_L1_does (l_0 : (List Tapi_Owned)) (vehicle_1 : (List UInt8)) (t_2 : Int) {s : Nat} {r : Int ⊕ Unit} (h : lp (account_owned_L1_step l_0 vehicle_1 t_2) s = some r) : Does Tryd.prog GT 0 (.loop (bodyAt Tryd.prog 62 [1, 0, 1, 0, 0])) (account_owned_L1_H l_0 vehicle_1 t_2 s) (account_owned_L1_X l_0 vehicle_1 t_2 r) (account_owned_L1_E l_0 vehicle_1 t_2 r) := by
  refine Does.lp (H := account_owned_L1_H l_0 vehicle_1 t_2) (X := account_owned_L1_X l_0 vehicle_1 t_2) (E := account_owned_L1_E l_0 vehicle_1 t_2) (fun s s2 h => ?_) (fun s r h => ?_) h
  · revert h; revert s; intro k11 h
    unfold account_owned_L1_step at h
    try dsimp only at h
    rcases ite_some h with ⟨c18, h⟩ | ⟨c18, h⟩
    · obtain ⟨x19, h20, h⟩ := bind_some h
      rcases ite_some h with ⟨c21, h⟩ | ⟨c21, h⟩
      · obtain ⟨h22, h⟩ := guard_some h
        simp only [Option.some.injEq, Sum.inl.injEq] at h
        subst h
        have hq := account_owned_L1_0 l_0 vehicle_1 t_2 k11 c18 x19 h20 c21 h22
        first | exact hq | exact Eq.mp (by simp only [account_owned_L1_H, List.length_set] <;> rfl) hq
      · rcases ite_some h with ⟨c23, h⟩ | ⟨c23, h⟩
        · obtain ⟨r24, h25, h⟩ := bind_some h
          rcases ite_some h with ⟨c26, h⟩ | ⟨c26, h⟩
          · simp at h
          · obtain ⟨h27, h⟩ := guard_some h
            simp only [Option.some.injEq, Sum.inl.injEq] at h
            subst h
            have hq := account_owned_L1_2 l_0 vehicle_1 t_2 k11 c18 x19 h20 c21 c23 r24 h25 c26 h27
            first | exact hq | exact Eq.mp (by simp only [account_owned_L1_H, List.length_set] <;> rfl) hq
        · rcases ite_some h with ⟨c28, h⟩ | ⟨c28, h⟩
          · obtain ⟨r29, h30, h⟩ := bind_some h
            rcases ite_some h with ⟨c31, h⟩ | ⟨c31, h⟩
            · simp at h
            · obtain ⟨h32, h⟩ := guard_some h
              simp only [Option.some.injEq, Sum.inl.injEq] at h
              subst h
              have hq := account_owned_L1_4 l_0 vehicle_1 t_2 k11 c18 x19 h20 c21 c23 c28 r29 h30 c31 h32
              first | exact hq | exact Eq.mp (by simp only [account_owned_L1_H, List.length_set] <;> rfl) hq
          · obtain ⟨h33, h⟩ := guard_some h
            simp only [Option.some.injEq, Sum.inl.injEq] at h
            subst h
            have hq := account_owned_L1_5 l_0 vehicle_1 t_2 k11 c18 x19 h20 c21 c23 c28 h33
            first | exact hq | exact Eq.mp (by simp only [account_owned_L1_H, List.length_set] <;> rfl) hq
    · simp at h
  · revert h; revert s; intro k11 h
    unfold account_owned_L1_step at h
    try dsimp only at h
    rcases ite_some h with ⟨c18, h⟩ | ⟨c18, h⟩
    · obtain ⟨x19, h20, h⟩ := bind_some h
      rcases ite_some h with ⟨c21, h⟩ | ⟨c21, h⟩
      · obtain ⟨h22, h⟩ := guard_some h
        simp at h
      · rcases ite_some h with ⟨c23, h⟩ | ⟨c23, h⟩
        · obtain ⟨r24, h25, h⟩ := bind_some h
          rcases ite_some h with ⟨c26, h⟩ | ⟨c26, h⟩
          · simp only [Option.some.injEq, Sum.inr.injEq] at h
            subst h
            exact ⟨account_owned_L1_1 l_0 vehicle_1 t_2 k11 c18 x19 h20 c21 c23 r24 h25 c26, by intro q; cases q⟩
          · obtain ⟨h27, h⟩ := guard_some h
            simp at h
        · rcases ite_some h with ⟨c28, h⟩ | ⟨c28, h⟩
          · obtain ⟨r29, h30, h⟩ := bind_some h
            rcases ite_some h with ⟨c31, h⟩ | ⟨c31, h⟩
            · simp only [Option.some.injEq, Sum.inr.injEq] at h
              subst h
              exact ⟨account_owned_L1_3 l_0 vehicle_1 t_2 k11 c18 x19 h20 c21 c23 c28 r29 h30 c31, by intro q; cases q⟩
            · obtain ⟨h32, h⟩ := guard_some h
              simp at h
          · obtain ⟨h33, h⟩ := guard_some h
            simp at h
    · simp only [Option.some.injEq, Sum.inr.injEq] at h
      subst h
      exact ⟨account_owned_L1_6 l_0 vehicle_1 t_2 k11 c18, by intro q; cases q⟩
noncomputable def account_owned (l_0 : (List Tapi_Owned)) (vehicle_1 : (List UInt8)) (t_2 : Int) : Option Int :=
  (lp (account_owned_L1_step l_0 vehicle_1 t_2) (0 : Nat)).bind fun qq => match qq with
  | Sum.inl o1 =>
    some o1
  | Sum.inr (o1) =>
    some (-1)
def account_owned_h1  : List CH := (cs 4 [])
def account_owned_p2 (l_0 : (List Tapi_Owned)) (vehicle_1 : (List UInt8)) (t_2 : Int) : List Prop := [((.str vehicle_1 : AV) = .str vehicle_1), ((.int .i64 t_2 : AV) = .int .i64 t_2), ((.lst (fl Tapi_Owned.enc l_0) l_0.length : AV) = .lst (fl Tapi_Owned.enc l_0) l_0.length), ((.int .i64 (↑l_0.length : Int) : AV) = .int .i64 (↑l_0.length : Int)), ((.int .i64 0 : AV) = .int .i64 (↑(0 : Nat) : Int))]
theorem account_owned_p2q (l_0 : (List Tapi_Owned)) (vehicle_1 : (List UInt8)) (t_2 : Int) : allOk (account_owned_p2 l_0 vehicle_1 t_2) := ⟨rfl, rfl, rfl, rfl, ok1 rfl⟩
theorem account_owned_0 (l_0 : (List Tapi_Owned)) (vehicle_1 : (List UInt8)) (t_2 : Int) (o1 : Int) (hl1 : lp (account_owned_L1_step l_0 vehicle_1 t_2) (0 : Nat) = some (Sum.inl o1)) : Ret Tryd.prog GT 62 [.lst (fl Tapi_Owned.enc l_0) l_0.length, .str vehicle_1, .int .i64 t_2] (.int .i64 o1) [] :=
  Ret.of_view 400 ((account_owned_h1) ++ [.fcut 0 .ret [(6, .int .i64 o1)] [] [] [(1, .str vehicle_1), (2, .int .i64 t_2), (9, .lst (fl Tapi_Owned.enc l_0) l_0.length), (10, .int .i64 (↑l_0.length : Int)), (11, .int .i64 (↑(0 : Nat) : Int))] []]) [] (ps := ((account_owned_p2 l_0 vehicle_1 t_2) ++ [(Does Tryd.prog GT 0 (.loop (bodyAt Tryd.prog 62 [1, 0, 1, 0, 0])) (S 39 [(1, .str vehicle_1), (2, .int .i64 t_2), (9, .lst (fl Tapi_Owned.enc l_0) l_0.length), (10, .int .i64 (↑l_0.length : Int)), (11, .int .i64 (↑(0 : Nat) : Int))] []) .ret (S 39 [(6, .int .i64 o1)] []))])) (by kernel_rfl) (by kernel_rfl) (allOk_append.2 ⟨(account_owned_p2q l_0 vehicle_1 t_2), (ok1 (account_owned_L1_does l_0 vehicle_1 t_2 hl1))⟩)
theorem account_owned_1 (l_0 : (List Tapi_Owned)) (vehicle_1 : (List UInt8)) (t_2 : Int) (o1 : Unit) (hl1 : lp (account_owned_L1_step l_0 vehicle_1 t_2) (0 : Nat) = some (Sum.inr (o1))) : Ret Tryd.prog GT 62 [.lst (fl Tapi_Owned.enc l_0) l_0.length, .str vehicle_1, .int .i64 t_2] (.int .i64 (-1)) [] :=
  Ret.of_view 400 ((account_owned_h1) ++ [.fcut 0 (.exit 0) [] [] [] [(1, .str vehicle_1), (2, .int .i64 t_2), (9, .lst (fl Tapi_Owned.enc l_0) l_0.length), (10, .int .i64 (↑l_0.length : Int)), (11, .int .i64 (↑(0 : Nat) : Int))] [], .op none .c]) [] (ps := ((account_owned_p2 l_0 vehicle_1 t_2) ++ [(Does Tryd.prog GT 0 (.loop (bodyAt Tryd.prog 62 [1, 0, 1, 0, 0])) (S 39 [(1, .str vehicle_1), (2, .int .i64 t_2), (9, .lst (fl Tapi_Owned.enc l_0) l_0.length), (10, .int .i64 (↑l_0.length : Int)), (11, .int .i64 (↑(0 : Nat) : Int))] []) (.exit 0) (S 39 [] []))])) (by kernel_rfl) (by kernel_rfl) (allOk_append.2 ⟨(account_owned_p2q l_0 vehicle_1 t_2), (ok1 (account_owned_L1_does l_0 vehicle_1 t_2 hl1))⟩)
theorem account_owned_ret (l_0 : (List Tapi_Owned)) (vehicle_1 : (List UInt8)) (t_2 : Int) (r : Int) (h : account_owned l_0 vehicle_1 t_2 = some r) : Ret Tryd.prog GT 62 [.lst (fl Tapi_Owned.enc l_0) l_0.length, .str vehicle_1, .int .i64 t_2] (.int .i64 r) [] := by
  unfold account_owned at h
  obtain ⟨qq, hl1, h⟩ := bind_some h
  rcases qq with o1 | o1
  · dsimp only at h
    simp only [Option.some.injEq] at h
    subst h
    exact account_owned_0 l_0 vehicle_1 t_2 o1 hl1
  · dsimp only at h
    simp only [Option.some.injEq] at h
    subst h
    exact account_owned_1 l_0 vehicle_1 t_2 o1 hl1
noncomputable def tollwayref33_owns_L1_step (l_0 : (List Tapi_Owned)) (vehicle_1 : (List UInt8)) (t_2 : Int) : Nat → Option (Nat ⊕ (Int ⊕ Unit)) := fun k7 =>
  if (↑k7 : Int) < (↑l_0.length : Int) then
    if vehicle_1 = [] then
      if InR .i64 ((↑k7 : Int) + 1) then
        some (Sum.inl (k7 + 1))
      else none
    else
      (l_0[k7]?).bind fun x29 =>
      if x29.Tag = vehicle_1 then
        (tollwayref26_IsSpan x29.Time).bind fun r32 =>
        if r32 = true then
          if x29.Time.From ≤ t_2 then
            if t_2 < x29.Time.To then
              some (Sum.inr (Sum.inl (↑k7 : Int)))
            else
              if InR .i64 ((↑k7 : Int) + 1) then
                some (Sum.inl (k7 + 1))
              else none
          else
            if InR .i64 ((↑k7 : Int) + 1) then
              some (Sum.inl (k7 + 1))
            else none
        else
          if InR .i64 ((↑k7 : Int) + 1) then
            some (Sum.inl (k7 + 1))
          else none
      else
        if x29.Plate = vehicle_1 then
          (tollwayref26_IsSpan x29.Time).bind fun r41 =>
          if r41 = true then
            if x29.Time.From ≤ t_2 then
              if t_2 < x29.Time.To then
                some (Sum.inr (Sum.inl (↑k7 : Int)))
              else
                if InR .i64 ((↑k7 : Int) + 1) then
                  some (Sum.inl (k7 + 1))
                else none
            else
              if InR .i64 ((↑k7 : Int) + 1) then
                some (Sum.inl (k7 + 1))
              else none
          else
            if InR .i64 ((↑k7 : Int) + 1) then
              some (Sum.inl (k7 + 1))
            else none
        else
          if InR .i64 ((↑k7 : Int) + 1) then
            some (Sum.inl (k7 + 1))
          else none
  else
    some (Sum.inr (Sum.inr (())))
def tollwayref33_owns_L1_H (l_0 : (List Tapi_Owned)) (vehicle_1 : (List UInt8)) (t_2 : Int) : Nat → St := fun (s : Nat) => S 63 [(0, .lst (fl Tapi_Owned.enc l_0) l_0.length), (1, .str vehicle_1), (2, .int .i64 t_2), (7, .int .i64 (↑s : Int))] []
theorem tollwayref33_owns_L1_0 (l_0 : (List Tapi_Owned)) (vehicle_1 : (List UInt8)) (t_2 : Int) (k7 : Nat) (c26 : (↑k7 : Int) < (↑l_0.length : Int)) (c27 : vehicle_1 = []) (h28 : InR .i64 ((↑k7 : Int) + 1)) : Does Tryd.prog GT 0 (bodyAt Tryd.prog 63 [1, 0, 1, 0, 0]) (tollwayref33_owns_L1_H l_0 vehicle_1 t_2 k7) .normal (S 63 [(0, .lst (fl Tapi_Owned.enc l_0) l_0.length), (1, .str vehicle_1), (2, .int .i64 t_2), (7, .int .i64 ((↑k7 : Int) + 1))] []) :=
  Does.of_viewM 0 400 (cs 3 ((.op none .a) :: (.br true) :: (.op none .c) :: (.op none .a) :: (.op none .c) :: (.op (some false) .c) :: (cs 44 [.br false, .op none .c, .op none .w, .op none .c]))) [] (ps := [((decide ((↑k7 : Int) < (↑l_0.length : Int))) = true), ((!(vehicle_1 == [])) = false), (false = false), (IntKind.min .i64 ≤ ((↑k7 : Int) + 1) ∧ ((↑k7 : Int) + 1) ≤ IntKind.max .i64)]) (by kernel_rfl) (by kernel_rfl) ⟨(decide_eq_true c26), (not_f (beq_t c27)), rfl, ok1 h28⟩
theorem tollwayref33_owns_L1_1 (l_0 : (List Tapi_Owned)) (vehicle_1 : (List UInt8)) (t_2 : Int) (k7 : Nat) (c26 : (↑k7 : Int) < (↑l_0.length : Int)) (c27 : ¬ (vehicle_1 = [])) (x29 : Tapi_Owned) (h30 : l_0[k7]? = some x29) (c31 : x29.Tag = vehicle_1) (r32 : Bool) (h33 : tollwayref26_IsSpan x29.Time = some r32) (c34 : r32 = true) (c35 : x29.Time.From ≤ t_2) (c36 : t_2 < x29.Time.To) : Does Tryd.prog GT 0 (bodyAt Tryd.prog 63 [1, 0, 1, 0, 0]) (tollwayref33_owns_L1_H l_0 vehicle_1 t_2 k7) .ret (S 63 [(6, .int .i64 (↑k7 : Int))] []) :=
  Does.of_viewM 0 400 (cs 3 ((.op none .a) :: (.br true) :: (.op none .c) :: (.op none .a) :: (.op none .c) :: (.op (some true) .c) :: (.op none .c) :: (.op none (.i k7)) :: (.op none .c) :: (.op none (.v [.str x29.Tag])) :: (.op none .c) :: (.op none .a) :: (.op none .c) :: (.op (some true) .c) :: (cs 11 ((.op none (.i k7)) :: (.op none .c) :: (.op none (.v [.int .i64 x29.Time.From, .int .i64 x29.Time.To])) :: (.ret none [.agg (Tapi_Interval.enc x29.Time)] (.bool r32) []) :: (cs 2 ((.op (some true) .c) :: (.op none .c) :: (.op none (.i k7)) :: (cs 2 ((.op none (.v [.int .i64 x29.Time.From])) :: (.op none .c) :: (.op none .a) :: (cs 2 ((.op (some true) .c) :: (cs 2 ((.op none (.i k7)) :: (cs 2 ((.op none (.v [.int .i64 x29.Time.To])) :: (.op none .a) :: (.op none .c) :: (.br true) :: (cs 2 []))))))))))))))) [] (ps := [((decide ((↑k7 : Int) < (↑l_0.length : Int))) = true), ((!(vehicle_1 == [])) = true), ((↑k7 : Int) = ((k7 : Nat) : Int) ∧ k7 < l_0.length), ((fl Tapi_Owned.enc l_0) ≠ []), (sub (fl Tapi_Owned.enc l_0) (k7 * 4) 1 = [.str x29.Tag]), ((x29.Tag == vehicle_1) = true), ((↑k7 : Int) = ((k7 : Nat) : Int) ∧ k7 < l_0.length), ((fl Tapi_Owned.enc l_0) ≠ []), (sub (fl Tapi_Owned.enc l_0) ((k7 * 4) + 2) 2 = [.int .i64 x29.Time.From, .int .i64 x29.Time.To]), ((.agg (Tapi_Interval.enc x29.Time) : AV) = .agg (Tapi_Interval.enc x29.Time)), (Ret Tryd.prog GT 72 [.agg (Tapi_Interval.enc x29.Time)] (.bool r32) []), (r32 = true), ((↑k7 : Int) = ((k7 : Nat) : Int) ∧ k7 < l_0.length), ((fl Tapi_Owned.enc l_0) ≠ []), (sub (fl Tapi_Owned.enc l_0) ((k7 * 4) + 2) 1 = [.int .i64 x29.Time.From]), ((decide (x29.Time.From ≤ t_2)) = true), ((↑k7 : Int) = ((k7 : Nat) : Int) ∧ k7 < l_0.length), ((fl Tapi_Owned.enc l_0) ≠ []), (sub (fl Tapi_Owned.enc l_0) ((k7 * 4) + 3) 1 = [.int .i64 x29.Time.To]), ((decide (t_2 < x29.Time.To)) = true)]) (by kernel_rfl) (by kernel_rfl) ⟨(decide_eq_true c26), (not_t (beq_f c27)), ⟨rfl, get_lt h30⟩, (fl_ne (f := Tapi_Owned.enc) (z := 3) (fun _ => rfl) h30), (fl_sub (f := Tapi_Owned.enc) (z := 4) (j := k7) (a := 0) (n := 1) (fun _ => rfl) h30 (by decide) rfl), (beq_t c31), ⟨rfl, get_lt h30⟩, (fl_ne (f := Tapi_Owned.enc) (z := 3) (fun _ => rfl) h30), (fl_sub (f := Tapi_Owned.enc) (z := 4) (j := k7) (a := 2) (n := 2) (fun _ => rfl) h30 (by decide) rfl), rfl, (tollwayref26_IsSpan_ret x29.Time r32 h33), c34, ⟨rfl, get_lt h30⟩, (fl_ne (f := Tapi_Owned.enc) (z := 3) (fun _ => rfl) h30), (fl_sub (f := Tapi_Owned.enc) (z := 4) (j := k7) (a := 2) (n := 1) (fun _ => rfl) h30 (by decide) rfl), (decide_eq_true c35), ⟨rfl, get_lt h30⟩, (fl_ne (f := Tapi_Owned.enc) (z := 3) (fun _ => rfl) h30), (fl_sub (f := Tapi_Owned.enc) (z := 4) (j := k7) (a := 3) (n := 1) (fun _ => rfl) h30 (by decide) rfl), ok1 (decide_eq_true c36)⟩
theorem tollwayref33_owns_L1_2 (l_0 : (List Tapi_Owned)) (vehicle_1 : (List UInt8)) (t_2 : Int) (k7 : Nat) (c26 : (↑k7 : Int) < (↑l_0.length : Int)) (c27 : ¬ (vehicle_1 = [])) (x29 : Tapi_Owned) (h30 : l_0[k7]? = some x29) (c31 : x29.Tag = vehicle_1) (r32 : Bool) (h33 : tollwayref26_IsSpan x29.Time = some r32) (c34 : r32 = true) (c35 : x29.Time.From ≤ t_2) (c36 : ¬ (t_2 < x29.Time.To)) (h37 : InR .i64 ((↑k7 : Int) + 1)) : Does Tryd.prog GT 0 (bodyAt Tryd.prog 63 [1, 0, 1, 0, 0]) (tollwayref33_owns_L1_H l_0 vehicle_1 t_2 k7) .normal (S 63 [(0, .lst (fl Tapi_Owned.enc l_0) l_0.length), (1, .str vehicle_1), (2, .int .i64 t_2), (7, .int .i64 ((↑k7 : Int) + 1))] []) :=
  Does.of_viewM 0 400 (cs 3 ((.op none .a) :: (.br true) :: (.op none .c) :: (.op none .a) :: (.op none .c) :: (.op (some true) .c) :: (.op none .c) :: (.op none (.i k7)) :: (.op none .c) :: (.op none (.v [.str x29.Tag])) :: (.op none .c) :: (.op none .a) :: (.op none .c) :: (.op (some true) .c) :: (cs 11 ((.op none (.i k7)) :: (.op none .c) :: (.op none (.v [.int .i64 x29.Time.From, .int .i64 x29.Time.To])) :: (.ret none [.agg (Tapi_Interval.enc x29.Time)] (.bool r32) []) :: (cs 2 ((.op (some true) .c) :: (.op none .c) :: (.op none (.i k7)) :: (cs 2 ((.op none (.v [.int .i64 x29.Time.From])) :: (.op none .c) :: (.op none .a) :: (cs 2 ((.op (some true) .c) :: (cs 2 ((.op none (.i k7)) :: (cs 2 [.op none (.v [.int .i64 x29.Time.To]), .op none .a, .op none .c, .br false, .op none .c, .op none .w, .op none .c]))))))))))))) [] (ps := [((decide ((↑k7 : Int) < (↑l_0.length : Int))) = true), ((!(vehicle_1 == [])) = true), ((↑k7 : Int) = ((k7 : Nat) : Int) ∧ k7 < l_0.length), ((fl Tapi_Owned.enc l_0) ≠ []), (sub (fl Tapi_Owned.enc l_0) (k7 * 4) 1 = [.str x29.Tag]), ((x29.Tag == vehicle_1) = true), ((↑k7 : Int) = ((k7 : Nat) : Int) ∧ k7 < l_0.length), ((fl Tapi_Owned.enc l_0) ≠ []), (sub (fl Tapi_Owned.enc l_0) ((k7 * 4) + 2) 2 = [.int .i64 x29.Time.From, .int .i64 x29.Time.To]), ((.agg (Tapi_Interval.enc x29.Time) : AV) = .agg (Tapi_Interval.enc x29.Time)), (Ret Tryd.prog GT 72 [.agg (Tapi_Interval.enc x29.Time)] (.bool r32) []), (r32 = true), ((↑k7 : Int) = ((k7 : Nat) : Int) ∧ k7 < l_0.length), ((fl Tapi_Owned.enc l_0) ≠ []), (sub (fl Tapi_Owned.enc l_0) ((k7 * 4) + 2) 1 = [.int .i64 x29.Time.From]), ((decide (x29.Time.From ≤ t_2)) = true), ((↑k7 : Int) = ((k7 : Nat) : Int) ∧ k7 < l_0.length), ((fl Tapi_Owned.enc l_0) ≠ []), (sub (fl Tapi_Owned.enc l_0) ((k7 * 4) + 3) 1 = [.int .i64 x29.Time.To]), ((decide (t_2 < x29.Time.To)) = false), (IntKind.min .i64 ≤ ((↑k7 : Int) + 1) ∧ ((↑k7 : Int) + 1) ≤ IntKind.max .i64)]) (by kernel_rfl) (by kernel_rfl) ⟨(decide_eq_true c26), (not_t (beq_f c27)), ⟨rfl, get_lt h30⟩, (fl_ne (f := Tapi_Owned.enc) (z := 3) (fun _ => rfl) h30), (fl_sub (f := Tapi_Owned.enc) (z := 4) (j := k7) (a := 0) (n := 1) (fun _ => rfl) h30 (by decide) rfl), (beq_t c31), ⟨rfl, get_lt h30⟩, (fl_ne (f := Tapi_Owned.enc) (z := 3) (fun _ => rfl) h30), (fl_sub (f := Tapi_Owned.enc) (z := 4) (j := k7) (a := 2) (n := 2) (fun _ => rfl) h30 (by decide) rfl), rfl, (tollwayref26_IsSpan_ret x29.Time r32 h33), c34, ⟨rfl, get_lt h30⟩, (fl_ne (f := Tapi_Owned.enc) (z := 3) (fun _ => rfl) h30), (fl_sub (f := Tapi_Owned.enc) (z := 4) (j := k7) (a := 2) (n := 1) (fun _ => rfl) h30 (by decide) rfl), (decide_eq_true c35), ⟨rfl, get_lt h30⟩, (fl_ne (f := Tapi_Owned.enc) (z := 3) (fun _ => rfl) h30), (fl_sub (f := Tapi_Owned.enc) (z := 4) (j := k7) (a := 3) (n := 1) (fun _ => rfl) h30 (by decide) rfl), (decide_eq_false c36), ok1 h37⟩
theorem tollwayref33_owns_L1_3 (l_0 : (List Tapi_Owned)) (vehicle_1 : (List UInt8)) (t_2 : Int) (k7 : Nat) (c26 : (↑k7 : Int) < (↑l_0.length : Int)) (c27 : ¬ (vehicle_1 = [])) (x29 : Tapi_Owned) (h30 : l_0[k7]? = some x29) (c31 : x29.Tag = vehicle_1) (r32 : Bool) (h33 : tollwayref26_IsSpan x29.Time = some r32) (c34 : r32 = true) (c35 : ¬ (x29.Time.From ≤ t_2)) (h38 : InR .i64 ((↑k7 : Int) + 1)) : Does Tryd.prog GT 0 (bodyAt Tryd.prog 63 [1, 0, 1, 0, 0]) (tollwayref33_owns_L1_H l_0 vehicle_1 t_2 k7) .normal (S 63 [(0, .lst (fl Tapi_Owned.enc l_0) l_0.length), (1, .str vehicle_1), (2, .int .i64 t_2), (7, .int .i64 ((↑k7 : Int) + 1))] []) :=
  Does.of_viewM 0 400 (cs 3 ((.op none .a) :: (.br true) :: (.op none .c) :: (.op none .a) :: (.op none .c) :: (.op (some true) .c) :: (.op none .c) :: (.op none (.i k7)) :: (.op none .c) :: (.op none (.v [.str x29.Tag])) :: (.op none .c) :: (.op none .a) :: (.op none .c) :: (.op (some true) .c) :: (cs 11 ((.op none (.i k7)) :: (.op none .c) :: (.op none (.v [.int .i64 x29.Time.From, .int .i64 x29.Time.To])) :: (.ret none [.agg (Tapi_Interval.enc x29.Time)] (.bool r32) []) :: (cs 2 ((.op (some true) .c) :: (.op none .c) :: (.op none (.i k7)) :: (cs 2 ((.op none (.v [.int .i64 x29.Time.From])) :: (.op none .c) :: (.op none .a) :: (cs 2 ((.op (some false) .c) :: (cs 8 [.br false, .op none .c, .op none .w, .op none .c]))))))))))) [] (ps := [((decide ((↑k7 : Int) < (↑l_0.length : Int))) = true), ((!(vehicle_1 == [])) = true), ((↑k7 : Int) = ((k7 : Nat) : Int) ∧ k7 < l_0.length), ((fl Tapi_Owned.enc l_0) ≠ []), (sub (fl Tapi_Owned.enc l_0) (k7 * 4) 1 = [.str x29.Tag]), ((x29.Tag == vehicle_1) = true), ((↑k7 : Int) = ((k7 : Nat) : Int) ∧ k7 < l_0.length), ((fl Tapi_Owned.enc l_0) ≠ []), (sub (fl Tapi_Owned.enc l_0) ((k7 * 4) + 2) 2 = [.int .i64 x29.Time.From, .int .i64 x29.Time.To]), ((.agg (Tapi_Interval.enc x29.Time) : AV) = .agg (Tapi_Interval.enc x29.Time)), (Ret Tryd.prog GT 72 [.agg (Tapi_Interval.enc x29.Time)] (.bool r32) []), (r32 = true), ((↑k7 : Int) = ((k7 : Nat) : Int) ∧ k7 < l_0.length), ((fl Tapi_Owned.enc l_0) ≠ []), (sub (fl Tapi_Owned.enc l_0) ((k7 * 4) + 2) 1 = [.int .i64 x29.Time.From]), ((decide (x29.Time.From ≤ t_2)) = false), (false = false), (IntKind.min .i64 ≤ ((↑k7 : Int) + 1) ∧ ((↑k7 : Int) + 1) ≤ IntKind.max .i64)]) (by kernel_rfl) (by kernel_rfl) ⟨(decide_eq_true c26), (not_t (beq_f c27)), ⟨rfl, get_lt h30⟩, (fl_ne (f := Tapi_Owned.enc) (z := 3) (fun _ => rfl) h30), (fl_sub (f := Tapi_Owned.enc) (z := 4) (j := k7) (a := 0) (n := 1) (fun _ => rfl) h30 (by decide) rfl), (beq_t c31), ⟨rfl, get_lt h30⟩, (fl_ne (f := Tapi_Owned.enc) (z := 3) (fun _ => rfl) h30), (fl_sub (f := Tapi_Owned.enc) (z := 4) (j := k7) (a := 2) (n := 2) (fun _ => rfl) h30 (by decide) rfl), rfl, (tollwayref26_IsSpan_ret x29.Time r32 h33), c34, ⟨rfl, get_lt h30⟩, (fl_ne (f := Tapi_Owned.enc) (z := 3) (fun _ => rfl) h30), (fl_sub (f := Tapi_Owned.enc) (z := 4) (j := k7) (a := 2) (n := 1) (fun _ => rfl) h30 (by decide) rfl), (decide_eq_false c35), rfl, ok1 h38⟩
theorem tollwayref33_owns_L1_4 (l_0 : (List Tapi_Owned)) (vehicle_1 : (List UInt8)) (t_2 : Int) (k7 : Nat) (c26 : (↑k7 : Int) < (↑l_0.length : Int)) (c27 : ¬ (vehicle_1 = [])) (x29 : Tapi_Owned) (h30 : l_0[k7]? = some x29) (c31 : x29.Tag = vehicle_1) (r32 : Bool) (h33 : tollwayref26_IsSpan x29.Time = some r32) (c34 : ¬ (r32 = true)) (h39 : InR .i64 ((↑k7 : Int) + 1)) : Does Tryd.prog GT 0 (bodyAt Tryd.prog 63 [1, 0, 1, 0, 0]) (tollwayref33_owns_L1_H l_0 vehicle_1 t_2 k7) .normal (S 63 [(0, .lst (fl Tapi_Owned.enc l_0) l_0.length), (1, .str vehicle_1), (2, .int .i64 t_2), (7, .int .i64 ((↑k7 : Int) + 1))] []) :=
  Does.of_viewM 0 400 (cs 3 ((.op none .a) :: (.br true) :: (.op none .c) :: (.op none .a) :: (.op none .c) :: (.op (some true) .c) :: (.op none .c) :: (.op none (.i k7)) :: (.op none .c) :: (.op none (.v [.str x29.Tag])) :: (.op none .c) :: (.op none .a) :: (.op none .c) :: (.op (some true) .c) :: (cs 11 ((.op none (.i k7)) :: (.op none .c) :: (.op none (.v [.int .i64 x29.Time.From, .int .i64 x29.Time.To])) :: (.ret none [.agg (Tapi_Interval.enc x29.Time)] (.bool r32) []) :: (cs 2 ((.op (some false) .c) :: (cs 18 [.br false, .op none .c, .op none .w, .op none .c]))))))) [] (ps := [((decide ((↑k7 : Int) < (↑l_0.length : Int))) = true), ((!(vehicle_1 == [])) = true), ((↑k7 : Int) = ((k7 : Nat) : Int) ∧ k7 < l_0.length), ((fl Tapi_Owned.enc l_0) ≠ []), (sub (fl Tapi_Owned.enc l_0) (k7 * 4) 1 = [.str x29.Tag]), ((x29.Tag == vehicle_1) = true), ((↑k7 : Int) = ((k7 : Nat) : Int) ∧ k7 < l_0.length), ((fl Tapi_Owned.enc l_0) ≠ []), (sub (fl Tapi_Owned.enc l_0) ((k7 * 4) + 2) 2 = [.int .i64 x29.Time.From, .int .i64 x29.Time.To]), ((.agg (Tapi_Interval.enc x29.Time) : AV) = .agg (Tapi_Interval.enc x29.Time)), (Ret Tryd.prog GT 72 [.agg (Tapi_Interval.enc x29.Time)] (.bool r32) []), (r32 = false), (false = false), (IntKind.min .i64 ≤ ((↑k7 : Int) + 1) ∧ ((↑k7 : Int) + 1) ≤ IntKind.max .i64)]) (by kernel_rfl) (by kernel_rfl) ⟨(decide_eq_true c26), (not_t (beq_f c27)), ⟨rfl, get_lt h30⟩, (fl_ne (f := Tapi_Owned.enc) (z := 3) (fun _ => rfl) h30), (fl_sub (f := Tapi_Owned.enc) (z := 4) (j := k7) (a := 0) (n := 1) (fun _ => rfl) h30 (by decide) rfl), (beq_t c31), ⟨rfl, get_lt h30⟩, (fl_ne (f := Tapi_Owned.enc) (z := 3) (fun _ => rfl) h30), (fl_sub (f := Tapi_Owned.enc) (z := 4) (j := k7) (a := 2) (n := 2) (fun _ => rfl) h30 (by decide) rfl), rfl, (tollwayref26_IsSpan_ret x29.Time r32 h33), (eq_false_of_ne_true c34), rfl, ok1 h39⟩
theorem tollwayref33_owns_L1_5 (l_0 : (List Tapi_Owned)) (vehicle_1 : (List UInt8)) (t_2 : Int) (k7 : Nat) (c26 : (↑k7 : Int) < (↑l_0.length : Int)) (c27 : ¬ (vehicle_1 = [])) (x29 : Tapi_Owned) (h30 : l_0[k7]? = some x29) (c31 : ¬ (x29.Tag = vehicle_1)) (c40 : x29.Plate = vehicle_1) (r41 : Bool) (h42 : tollwayref26_IsSpan x29.Time = some r41) (c43 : r41 = true) (c44 : x29.Time.From ≤ t_2) (c45 : t_2 < x29.Time.To) : Does Tryd.prog GT 0 (bodyAt Tryd.prog 63 [1, 0, 1, 0, 0]) (tollwayref33_owns_L1_H l_0 vehicle_1 t_2 k7) .ret (S 63 [(6, .int .i64 (↑k7 : Int))] []) :=
  Does.of_viewM 0 400 (cs 3 ((.op none .a) :: (.br true) :: (.op none .c) :: (.op none .a) :: (.op none .c) :: (.op (some true) .c) :: (.op none .c) :: (.op none (.i k7)) :: (.op none .c) :: (.op none (.v [.str x29.Tag])) :: (.op none .c) :: (.op none .a) :: (.op none .c) :: (.op (some false) .c) :: (.op none .c) :: (.op none (.i k7)) :: (.op none .c) :: (.op none (.v [.str x29.Plate])) :: (.op none .c) :: (.op none .a) :: (cs 3 ((.op (some true) .c) :: (.op none .c) :: (.op none (.i k7)) :: (.op none .c) :: (.op none (.v [.int .i64 x29.Time.From, .int .i64 x29.Time.To])) :: (.ret none [.agg (Tapi_Interval.enc x29.Time)] (.bool r41) []) :: (cs 2 ((.op (some true) .c) :: (.op none .c) :: (.op none (.i k7)) :: (cs 2 ((.op none (.v [.int .i64 x29.Time.From])) :: (.op none .c) :: (.op none .a) :: (cs 2 ((.op (some true) .c) :: (cs 2 ((.op none (.i k7)) :: (cs 2 ((.op none (.v [.int .i64 x29.Time.To])) :: (.op none .a) :: (.op none .c) :: (.br true) :: (cs 2 []))))))))))))))) [] (ps := [((decide ((↑k7 : Int) < (↑l_0.length : Int))) = true), ((!(vehicle_1 == [])) = true), ((↑k7 : Int) = ((k7 : Nat) : Int) ∧ k7 < l_0.length), ((fl Tapi_Owned.enc l_0) ≠ []), (sub (fl Tapi_Owned.enc l_0) (k7 * 4) 1 = [.str x29.Tag]), ((x29.Tag == vehicle_1) = false), ((↑k7 : Int) = ((k7 : Nat) : Int) ∧ k7 < l_0.length), ((fl Tapi_Owned.enc l_0) ≠ []), (sub (fl Tapi_Owned.enc l_0) ((k7 * 4) + 1) 1 = [.str x29.Plate]), ((x29.Plate == vehicle_1) = true), ((↑k7 : Int) = ((k7 : Nat) : Int) ∧ k7 < l_0.length), ((fl Tapi_Owned.enc l_0) ≠ []), (sub (fl Tapi_Owned.enc l_0) ((k7 * 4) + 2) 2 = [.int .i64 x29.Time.From, .int .i64 x29.Time.To]), ((.agg (Tapi_Interval.enc x29.Time) : AV) = .agg (Tapi_Interval.enc x29.Time)), (Ret Tryd.prog GT 72 [.agg (Tapi_Interval.enc x29.Time)] (.bool r41) []), (r41 = true), ((↑k7 : Int) = ((k7 : Nat) : Int) ∧ k7 < l_0.length), ((fl Tapi_Owned.enc l_0) ≠ []), (sub (fl Tapi_Owned.enc l_0) ((k7 * 4) + 2) 1 = [.int .i64 x29.Time.From]), ((decide (x29.Time.From ≤ t_2)) = true), ((↑k7 : Int) = ((k7 : Nat) : Int) ∧ k7 < l_0.length), ((fl Tapi_Owned.enc l_0) ≠ []), (sub (fl Tapi_Owned.enc l_0) ((k7 * 4) + 3) 1 = [.int .i64 x29.Time.To]), ((decide (t_2 < x29.Time.To)) = true)]) (by kernel_rfl) (by kernel_rfl) ⟨(decide_eq_true c26), (not_t (beq_f c27)), ⟨rfl, get_lt h30⟩, (fl_ne (f := Tapi_Owned.enc) (z := 3) (fun _ => rfl) h30), (fl_sub (f := Tapi_Owned.enc) (z := 4) (j := k7) (a := 0) (n := 1) (fun _ => rfl) h30 (by decide) rfl), (beq_f c31), ⟨rfl, get_lt h30⟩, (fl_ne (f := Tapi_Owned.enc) (z := 3) (fun _ => rfl) h30), (fl_sub (f := Tapi_Owned.enc) (z := 4) (j := k7) (a := 1) (n := 1) (fun _ => rfl) h30 (by decide) rfl), (beq_t c40), ⟨rfl, get_lt h30⟩, (fl_ne (f := Tapi_Owned.enc) (z := 3) (fun _ => rfl) h30), (fl_sub (f := Tapi_Owned.enc) (z := 4) (j := k7) (a := 2) (n := 2) (fun _ => rfl) h30 (by decide) rfl), rfl, (tollwayref26_IsSpan_ret x29.Time r41 h42), c43, ⟨rfl, get_lt h30⟩, (fl_ne (f := Tapi_Owned.enc) (z := 3) (fun _ => rfl) h30), (fl_sub (f := Tapi_Owned.enc) (z := 4) (j := k7) (a := 2) (n := 1) (fun _ => rfl) h30 (by decide) rfl), (decide_eq_true c44), ⟨rfl, get_lt h30⟩, (fl_ne (f := Tapi_Owned.enc) (z := 3) (fun _ => rfl) h30), (fl_sub (f := Tapi_Owned.enc) (z := 4) (j := k7) (a := 3) (n := 1) (fun _ => rfl) h30 (by decide) rfl), ok1 (decide_eq_true c45)⟩
theorem tollwayref33_owns_L1_6 (l_0 : (List Tapi_Owned)) (vehicle_1 : (List UInt8)) (t_2 : Int) (k7 : Nat) (c26 : (↑k7 : Int) < (↑l_0.length : Int)) (c27 : ¬ (vehicle_1 = [])) (x29 : Tapi_Owned) (h30 : l_0[k7]? = some x29) (c31 : ¬ (x29.Tag = vehicle_1)) (c40 : x29.Plate = vehicle_1) (r41 : Bool) (h42 : tollwayref26_IsSpan x29.Time = some r41) (c43 : r41 = true) (c44 : x29.Time.From ≤ t_2) (c45 : ¬ (t_2 < x29.Time.To)) (h46 : InR .i64 ((↑k7 : Int) + 1)) : Does Tryd.prog GT 0 (bodyAt Tryd.prog 63 [1, 0, 1, 0, 0]) (tollwayref33_owns_L1_H l_0 vehicle_1 t_2 k7) .normal (S 63 [(0, .lst (fl Tapi_Owned.enc l_0) l_0.length), (1, .str vehicle_1), (2, .int .i64 t_2), (7, .int .i64 ((↑k7 : Int) + 1))] []) :=
  Does.of_viewM 0 400 (cs 3 ((.op none .a) :: (.br true) :: (.op none .c) :: (.op none .a) :: (.op none .c) :: (.op (some true) .c) :: (.op none .c) :: (.op none (.i k7)) :: (.op none .c) :: (.op none (.v [.str x29.Tag])) :: (.op none .c) :: (.op none .a) :: (.op none .c) :: (.op (some false) .c) :: (.op none .c) :: (.op none (.i k7)) :: (.op none .c) :: (.op none (.v [.str x29.Plate])) :: (.op none .c) :: (.op none .a) :: (cs 3 ((.op (some true) .c) :: (.op none .c) :: (.op none (.i k7)) :: (.op none .c) :: (.op none (.v [.int .i64 x29.Time.From, .int .i64 x29.Time.To])) :: (.ret none [.agg (Tapi_Interval.enc x29.Time)] (.bool r41) []) :: (cs 2 ((.op (some true) .c) :: (.op none .c) :: (.op none (.i k7)) :: (cs 2 ((.op none (.v [.int .i64 x29.Time.From])) :: (.op none .c) :: (.op none .a) :: (cs 2 ((.op (some true) .c) :: (cs 2 ((.op none (.i k7)) :: (cs 2 [.op none (.v [.int .i64 x29.Time.To]), .op none .a, .op none .c, .br false, .op none .c, .op none .w, .op none .c]))))))))))))) [] (ps := [((decide ((↑k7 : Int) < (↑l_0.length : Int))) = true), ((!(vehicle_1 == [])) = true), ((↑k7 : Int) = ((k7 : Nat) : Int) ∧ k7 < l_0.length), ((fl Tapi_Owned.enc l_0) ≠ []), (sub (fl Tapi_Owned.enc l_0) (k7 * 4) 1 = [.str x29.Tag]), ((x29.Tag == vehicle_1) = false), ((↑k7 : Int) = ((k7 : Nat) : Int) ∧ k7 < l_0.length), ((fl Tapi_Owned.enc l_0) ≠ []), (sub (fl Tapi_Owned.enc l_0) ((k7 * 4) + 1) 1 = [.str x29.Plate]), ((x29.Plate == vehicle_1) = true), ((↑k7 : Int) = ((k7 : Nat) : Int) ∧ k7 < l_0.length), ((fl Tapi_Owned.enc l_0) ≠ []), (sub (fl Tapi_Owned.enc l_0) ((k7 * 4) + 2) 2 = [.int .i64 x29.Time.From, .int .i64 x29.Time.To]), ((.agg (Tapi_Interval.enc x29.Time) : AV) = .agg (Tapi_Interval.enc x29.Time)), (Ret Tryd.prog GT 72 [.agg (Tapi_Interval.enc x29.Time)] (.bool r41) []), (r41 = true), ((↑k7 : Int) = ((k7 : Nat) : Int) ∧ k7 < l_0.length), ((fl Tapi_Owned.enc l_0) ≠ []), (sub (fl Tapi_Owned.enc l_0) ((k7 * 4) + 2) 1 = [.int .i64 x29.Time.From]), ((decide (x29.Time.From ≤ t_2)) = true), ((↑k7 : Int) = ((k7 : Nat) : Int) ∧ k7 < l_0.length), ((fl Tapi_Owned.enc l_0) ≠ []), (sub (fl Tapi_Owned.enc l_0) ((k7 * 4) + 3) 1 = [.int .i64 x29.Time.To]), ((decide (t_2 < x29.Time.To)) = false), (IntKind.min .i64 ≤ ((↑k7 : Int) + 1) ∧ ((↑k7 : Int) + 1) ≤ IntKind.max .i64)]) (by kernel_rfl) (by kernel_rfl) ⟨(decide_eq_true c26), (not_t (beq_f c27)), ⟨rfl, get_lt h30⟩, (fl_ne (f := Tapi_Owned.enc) (z := 3) (fun _ => rfl) h30), (fl_sub (f := Tapi_Owned.enc) (z := 4) (j := k7) (a := 0) (n := 1) (fun _ => rfl) h30 (by decide) rfl), (beq_f c31), ⟨rfl, get_lt h30⟩, (fl_ne (f := Tapi_Owned.enc) (z := 3) (fun _ => rfl) h30), (fl_sub (f := Tapi_Owned.enc) (z := 4) (j := k7) (a := 1) (n := 1) (fun _ => rfl) h30 (by decide) rfl), (beq_t c40), ⟨rfl, get_lt h30⟩, (fl_ne (f := Tapi_Owned.enc) (z := 3) (fun _ => rfl) h30), (fl_sub (f := Tapi_Owned.enc) (z := 4) (j := k7) (a := 2) (n := 2) (fun _ => rfl) h30 (by decide) rfl), rfl, (tollwayref26_IsSpan_ret x29.Time r41 h42), c43, ⟨rfl, get_lt h30⟩, (fl_ne (f := Tapi_Owned.enc) (z := 3) (fun _ => rfl) h30), (fl_sub (f := Tapi_Owned.enc) (z := 4) (j := k7) (a := 2) (n := 1) (fun _ => rfl) h30 (by decide) rfl), (decide_eq_true c44), ⟨rfl, get_lt h30⟩, (fl_ne (f := Tapi_Owned.enc) (z := 3) (fun _ => rfl) h30), (fl_sub (f := Tapi_Owned.enc) (z := 4) (j := k7) (a := 3) (n := 1) (fun _ => rfl) h30 (by decide) rfl), (decide_eq_false c45), ok1 h46⟩
theorem tollwayref33_owns_L1_7 (l_0 : (List Tapi_Owned)) (vehicle_1 : (List UInt8)) (t_2 : Int) (k7 : Nat) (c26 : (↑k7 : Int) < (↑l_0.length : Int)) (c27 : ¬ (vehicle_1 = [])) (x29 : Tapi_Owned) (h30 : l_0[k7]? = some x29) (c31 : ¬ (x29.Tag = vehicle_1)) (c40 : x29.Plate = vehicle_1) (r41 : Bool) (h42 : tollwayref26_IsSpan x29.Time = some r41) (c43 : r41 = true) (c44 : ¬ (x29.Time.From ≤ t_2)) (h47 : InR .i64 ((↑k7 : Int) + 1)) : Does Tryd.prog GT 0 (bodyAt Tryd.prog 63 [1, 0, 1, 0, 0]) (tollwayref33_owns_L1_H l_0 vehicle_1 t_2 k7) .normal (S 63 [(0, .lst (fl Tapi_Owned.enc l_0) l_0.length), (1, .str vehicle_1), (2, .int .i64 t_2), (7, .int .i64 ((↑k7 : Int) + 1))] []) :=
  Does.of_viewM 0 400 (cs 3 ((.op none .a) :: (.br true) :: (.op none .c) :: (.op none .a) :: (.op none .c) :: (.op (some true) .c) :: (.op none .c) :: (.op none (.i k7)) :: (.op none .c) :: (.op none (.v [.str x29.Tag])) :: (.op none .c) :: (.op none .a) :: (.op none .c) :: (.op (some false) .c) :: (.op none .c) :: (.op none (.i k7)) :: (.op none .c) :: (.op none (.v [.str x29.Plate])) :: (.op none .c) :: (.op none .a) :: (cs 3 ((.op (some true) .c) :: (.op none .c) :: (.op none (.i k7)) :: (.op none .c) :: (.op none (.v [.int .i64 x29.Time.From, .int .i64 x29.Time.To])) :: (.ret none [.agg (Tapi_Interval.enc x29.Time)] (.bool r41) []) :: (cs 2 ((.op (some true) .c) :: (.op none .c) :: (.op none (.i k7)) :: (cs 2 ((.op none (.v [.int .i64 x29.Time.From])) :: (.op none .c) :: (.op none .a) :: (cs 2 ((.op (some false) .c) :: (cs 8 [.br false, .op none .c, .op none .w, .op none .c]))))))))))) [] (ps := [((decide ((↑k7 : Int) < (↑l_0.length : Int))) = true), ((!(vehicle_1 == [])) = true), ((↑k7 : Int) = ((k7 : Nat) : Int) ∧ k7 < l_0.length), ((fl Tapi_Owned.enc l_0) ≠ []), (sub (fl Tapi_Owned.enc l_0) (k7 * 4) 1 = [.str x29.Tag]), ((x29.Tag == vehicle_1) = false), ((↑k7 : Int) = ((k7 : Nat) : Int) ∧ k7 < l_0.length), ((fl Tapi_Owned.enc l_0) ≠ []), (sub (fl Tapi_Owned.enc l_0) ((k7 * 4) + 1) 1 = [.str x29.Plate]), ((x29.Plate == vehicle_1) = true), ((↑k7 : Int) = ((k7 : Nat) : Int) ∧ k7 < l_0.length), ((fl Tapi_Owned.enc l_0) ≠ []), (sub (fl Tapi_Owned.enc l_0) ((k7 * 4) + 2) 2 = [.int .i64 x29.Time.From, .int .i64 x29.Time.To]), ((.agg (Tapi_Interval.enc x29.Time) : AV) = .agg (Tapi_Interval.enc x29.Time)), (Ret Tryd.prog GT 72 [.agg (Tapi_Interval.enc x29.Time)] (.bool r41) []), (r41 = true), ((↑k7 : Int) = ((k7 : Nat) : Int) ∧ k7 < l_0.length), ((fl Tapi_Owned.enc l_0) ≠ []), (sub (fl Tapi_Owned.enc l_0) ((k7 * 4) + 2) 1 = [.int .i64 x29.Time.From]), ((decide (x29.Time.From ≤ t_2)) = false), (false = false), (IntKind.min .i64 ≤ ((↑k7 : Int) + 1) ∧ ((↑k7 : Int) + 1) ≤ IntKind.max .i64)]) (by kernel_rfl) (by kernel_rfl) ⟨(decide_eq_true c26), (not_t (beq_f c27)), ⟨rfl, get_lt h30⟩, (fl_ne (f := Tapi_Owned.enc) (z := 3) (fun _ => rfl) h30), (fl_sub (f := Tapi_Owned.enc) (z := 4) (j := k7) (a := 0) (n := 1) (fun _ => rfl) h30 (by decide) rfl), (beq_f c31), ⟨rfl, get_lt h30⟩, (fl_ne (f := Tapi_Owned.enc) (z := 3) (fun _ => rfl) h30), (fl_sub (f := Tapi_Owned.enc) (z := 4) (j := k7) (a := 1) (n := 1) (fun _ => rfl) h30 (by decide) rfl), (beq_t c40), ⟨rfl, get_lt h30⟩, (fl_ne (f := Tapi_Owned.enc) (z := 3) (fun _ => rfl) h30), (fl_sub (f := Tapi_Owned.enc) (z := 4) (j := k7) (a := 2) (n := 2) (fun _ => rfl) h30 (by decide) rfl), rfl, (tollwayref26_IsSpan_ret x29.Time r41 h42), c43, ⟨rfl, get_lt h30⟩, (fl_ne (f := Tapi_Owned.enc) (z := 3) (fun _ => rfl) h30), (fl_sub (f := Tapi_Owned.enc) (z := 4) (j := k7) (a := 2) (n := 1) (fun _ => rfl) h30 (by decide) rfl), (decide_eq_false c44), rfl, ok1 h47⟩
theorem tollwayref33_owns_L1_8 (l_0 : (List Tapi_Owned)) (vehicle_1 : (List UInt8)) (t_2 : Int) (k7 : Nat) (c26 : (↑k7 : Int) < (↑l_0.length : Int)) (c27 : ¬ (vehicle_1 = [])) (x29 : Tapi_Owned) (h30 : l_0[k7]? = some x29) (c31 : ¬ (x29.Tag = vehicle_1)) (c40 : x29.Plate = vehicle_1) (r41 : Bool) (h42 : tollwayref26_IsSpan x29.Time = some r41) (c43 : ¬ (r41 = true)) (h48 : InR .i64 ((↑k7 : Int) + 1)) : Does Tryd.prog GT 0 (bodyAt Tryd.prog 63 [1, 0, 1, 0, 0]) (tollwayref33_owns_L1_H l_0 vehicle_1 t_2 k7) .normal (S 63 [(0, .lst (fl Tapi_Owned.enc l_0) l_0.length), (1, .str vehicle_1), (2, .int .i64 t_2), (7, .int .i64 ((↑k7 : Int) + 1))] []) :=
  Does.of_viewM 0 400 (cs 3 ((.op none .a) :: (.br true) :: (.op none .c) :: (.op none .a) :: (.op none .c) :: (.op (some true) .c) :: (.op none .c) :: (.op none (.i k7)) :: (.op none .c) :: (.op none (.v [.str x29.Tag])) :: (.op none .c) :: (.op none .a) :: (.op none .c) :: (.op (some false) .c) :: (.op none .c) :: (.op none (.i k7)) :: (.op none .c) :: (.op none (.v [.str x29.Plate])) :: (.op none .c) :: (.op none .a) :: (cs 3 ((.op (some true) .c) :: (.op none .c) :: (.op none (.i k7)) :: (.op none .c) :: (.op none (.v [.int .i64 x29.Time.From, .int .i64 x29.Time.To])) :: (.ret none [.agg (Tapi_Interval.enc x29.Time)] (.bool r41) []) :: (cs 2 ((.op (some false) .c) :: (cs 18 [.br false, .op none .c, .op none .w, .op none .c]))))))) [] (ps := [((decide ((↑k7 : Int) < (↑l_0.length : Int))) = true), ((!(vehicle_1 == [])) = true), ((↑k7 : Int) = ((k7 : Nat) : Int) ∧ k7 < l_0.length), ((fl Tapi_Owned.enc l_0) ≠ []), (sub (fl Tapi_Owned.enc l_0) (k7 * 4) 1 = [.str x29.Tag]), ((x29.Tag == vehicle_1) = false), ((↑k7 : Int) = ((k7 : Nat) : Int) ∧ k7 < l_0.length), ((fl Tapi_Owned.enc l_0) ≠ []), (sub (fl Tapi_Owned.enc l_0) ((k7 * 4) + 1) 1 = [.str x29.Plate]), ((x29.Plate == vehicle_1) = true), ((↑k7 : Int) = ((k7 : Nat) : Int) ∧ k7 < l_0.length), ((fl Tapi_Owned.enc l_0) ≠ []), (sub (fl Tapi_Owned.enc l_0) ((k7 * 4) + 2) 2 = [.int .i64 x29.Time.From, .int .i64 x29.Time.To]), ((.agg (Tapi_Interval.enc x29.Time) : AV) = .agg (Tapi_Interval.enc x29.Time)), (Ret Tryd.prog GT 72 [.agg (Tapi_Interval.enc x29.Time)] (.bool r41) []), (r41 = false), (false = false), (IntKind.min .i64 ≤ ((↑k7 : Int) + 1) ∧ ((↑k7 : Int) + 1) ≤ IntKind.max .i64)]) (by kernel_rfl) (by kernel_rfl) ⟨(decide_eq_true c26), (not_t (beq_f c27)), ⟨rfl, get_lt h30⟩, (fl_ne (f := Tapi_Owned.enc) (z := 3) (fun _ => rfl) h30), (fl_sub (f := Tapi_Owned.enc) (z := 4) (j := k7) (a := 0) (n := 1) (fun _ => rfl) h30 (by decide) rfl), (beq_f c31), ⟨rfl, get_lt h30⟩, (fl_ne (f := Tapi_Owned.enc) (z := 3) (fun _ => rfl) h30), (fl_sub (f := Tapi_Owned.enc) (z := 4) (j := k7) (a := 1) (n := 1) (fun _ => rfl) h30 (by decide) rfl), (beq_t c40), ⟨rfl, get_lt h30⟩, (fl_ne (f := Tapi_Owned.enc) (z := 3) (fun _ => rfl) h30), (fl_sub (f := Tapi_Owned.enc) (z := 4) (j := k7) (a := 2) (n := 2) (fun _ => rfl) h30 (by decide) rfl), rfl, (tollwayref26_IsSpan_ret x29.Time r41 h42), (eq_false_of_ne_true c43), rfl, ok1 h48⟩
theorem tollwayref33_owns_L1_9 (l_0 : (List Tapi_Owned)) (vehicle_1 : (List UInt8)) (t_2 : Int) (k7 : Nat) (c26 : (↑k7 : Int) < (↑l_0.length : Int)) (c27 : ¬ (vehicle_1 = [])) (x29 : Tapi_Owned) (h30 : l_0[k7]? = some x29) (c31 : ¬ (x29.Tag = vehicle_1)) (c40 : ¬ (x29.Plate = vehicle_1)) (h49 : InR .i64 ((↑k7 : Int) + 1)) : Does Tryd.prog GT 0 (bodyAt Tryd.prog 63 [1, 0, 1, 0, 0]) (tollwayref33_owns_L1_H l_0 vehicle_1 t_2 k7) .normal (S 63 [(0, .lst (fl Tapi_Owned.enc l_0) l_0.length), (1, .str vehicle_1), (2, .int .i64 t_2), (7, .int .i64 ((↑k7 : Int) + 1))] []) :=
  Does.of_viewM 0 400 (cs 3 ((.op none .a) :: (.br true) :: (.op none .c) :: (.op none .a) :: (.op none .c) :: (.op (some true) .c) :: (.op none .c) :: (.op none (.i k7)) :: (.op none .c) :: (.op none (.v [.str x29.Tag])) :: (.op none .c) :: (.op none .a) :: (.op none .c) :: (.op (some false) .c) :: (.op none .c) :: (.op none (.i k7)) :: (.op none .c) :: (.op none (.v [.str x29.Plate])) :: (.op none .c) :: (.op none .a) :: (cs 3 ((.op (some false) .c) :: (cs 26 [.br false, .op none .c, .op none .w, .op none .c]))))) [] (ps := [((decide ((↑k7 : Int) < (↑l_0.length : Int))) = true), ((!(vehicle_1 == [])) = true), ((↑k7 : Int) = ((k7 : Nat) : Int) ∧ k7 < l_0.length), ((fl Tapi_Owned.enc l_0) ≠ []), (sub (fl Tapi_Owned.enc l_0) (k7 * 4) 1 = [.str x29.Tag]), ((x29.Tag == vehicle_1) = false), ((↑k7 : Int) = ((k7 : Nat) : Int) ∧ k7 < l_0.length), ((fl Tapi_Owned.enc l_0) ≠ []), (sub (fl Tapi_Owned.enc l_0) ((k7 * 4) + 1) 1 = [.str x29.Plate]), ((x29.Plate == vehicle_1) = false), (false = false), (IntKind.min .i64 ≤ ((↑k7 : Int) + 1) ∧ ((↑k7 : Int) + 1) ≤ IntKind.max .i64)]) (by kernel_rfl) (by kernel_rfl) ⟨(decide_eq_true c26), (not_t (beq_f c27)), ⟨rfl, get_lt h30⟩, (fl_ne (f := Tapi_Owned.enc) (z := 3) (fun _ => rfl) h30), (fl_sub (f := Tapi_Owned.enc) (z := 4) (j := k7) (a := 0) (n := 1) (fun _ => rfl) h30 (by decide) rfl), (beq_f c31), ⟨rfl, get_lt h30⟩, (fl_ne (f := Tapi_Owned.enc) (z := 3) (fun _ => rfl) h30), (fl_sub (f := Tapi_Owned.enc) (z := 4) (j := k7) (a := 1) (n := 1) (fun _ => rfl) h30 (by decide) rfl), (beq_f c40), rfl, ok1 h49⟩
theorem tollwayref33_owns_L1_10 (l_0 : (List Tapi_Owned)) (vehicle_1 : (List UInt8)) (t_2 : Int) (k7 : Nat) (c26 : ¬ ((↑k7 : Int) < (↑l_0.length : Int))) : Does Tryd.prog GT 0 (bodyAt Tryd.prog 63 [1, 0, 1, 0, 0]) (tollwayref33_owns_L1_H l_0 vehicle_1 t_2 k7) (.exit 0) (S 63 [] []) :=
  Does.of_viewM 0 400 (cs 3 [.op none .a, .br false]) [] (ps := [((decide ((↑k7 : Int) < (↑l_0.length : Int))) = false)]) (by kernel_rfl) (by kernel_rfl) (ok1 (decide_eq_false c26))
def tollwayref33_owns_L1_X (l_0 : (List Tapi_Owned)) (vehicle_1 : (List UInt8)) (t_2 : Int) : (Int ⊕ Unit) → AEx := fun q => match q with | Sum.inl o => .ret | Sum.inr (o) => (.exit 0)
def tollwayref33_owns_L1_E (l_0 : (List Tapi_Owned)) (vehicle_1 : (List UInt8)) (t_2 : Int) : (Int ⊕ Unit) → St := fun q => match q with | Sum.inl o => S 63 [(6, .int .i64 o)] [] | Sum.inr (o) => S 63 [] []
theorem tollwayref33_owns_L1_does (l_0 : (List Tapi_Owned)) (vehicle_1 : (List UInt8)) (t_2 : Int) {s : Nat} {r : Int ⊕ Unit} (h : lp (tollwayref33_owns_L1_step l_0 vehicle_1 t_2) s = some r) : Does Tryd.prog GT 0 (.loop (bodyAt Tryd.prog 63 [1, 0, 1, 0, 0])) (tollwayref33_owns_L1_H l_0 vehicle_1 t_2 s) (tollwayref33_owns_L1_X l_0 vehicle_1 t_2 r) (tollwayref33_owns_L1_E l_0 vehicle_1 t_2 r) := by
  refine Does.lp (H := tollwayref33_owns_L1_H l_0 vehicle_1 t_2) (X := tollwayref33_owns_L1_X l_0 vehicle_1 t_2) (E := tollwayref33_owns_L1_E l_0 vehicle_1 t_2) (fun s s2 h => ?_) (fun s r h => ?_) h
  · revert h; revert s; intro k7 h
    unfold tollwayref33_owns_L1_step at h
    try dsimp only at h
    rcases ite_some h with ⟨c26, h⟩ | ⟨c26, h⟩
    · rcases ite_some h with ⟨c27, h⟩ | ⟨c27, h⟩
      · obtain ⟨h28, h⟩ := guard_some h
        simp only [Option.some.injEq, Sum.inl.injEq] at h
        subst h
        have hq := tollwayref33_owns_L1_0 l_0 vehicle_1 t_2 k7 c26 c27 h28
        first | exact hq | exact Eq.mp (by simp only [tollwayref33_owns_L1_H, List.length_set] <;> rfl) hq
      · obtain ⟨x29, h30, h⟩ := bind_some h
        rcases ite_some h with ⟨c31, h⟩ | ⟨c31, h⟩
        · obtain ⟨r32, h33, h⟩ := bind_some h
          rcases ite_some h with ⟨c34, h⟩ | ⟨c34, h⟩
          · rcases ite_some h with ⟨c35, h⟩ | ⟨c35, h⟩
            · rcases ite_some h with ⟨c36, h⟩ | ⟨c36, h⟩
              · simp at h
              · obtain ⟨h37, h⟩ := guard_some h
                simp only [Option.some.injEq, Sum.inl.injEq] at h
                subst h
                have hq := tollwayref33_owns_L1_2 l_0 vehicle_1 t_2 k7 c26 c27 x29 h30 c31 r32 h33 c34 c35 c36 h37
                first | exact hq | exact Eq.mp (by simp only [tollwayref33_owns_L1_H, List.length_set] <;> rfl) hq
            · obtain ⟨h38, h⟩ := guard_some h
              simp only [Option.some.injEq, Sum.inl.injEq] at h
              subst h
              have hq := tollwayref33_owns_L1_3 l_0 vehicle_1 t_2 k7 c26 c27 x29 h30 c31 r32 h33 c34 c35 h38
              first | exact hq | exact Eq.mp (by simp only [tollwayref33_owns_L1_H, List.length_set] <;> rfl) hq
          · obtain ⟨h39, h⟩ := guard_some h
            simp only [Option.some.injEq, Sum.inl.injEq] at h
            subst h
            have hq := tollwayref33_owns_L1_4 l_0 vehicle_1 t_2 k7 c26 c27 x29 h30 c31 r32 h33 c34 h39
            first | exact hq | exact Eq.mp (by simp only [tollwayref33_owns_L1_H, List.length_set] <;> rfl) hq
        · rcases ite_some h with ⟨c40, h⟩ | ⟨c40, h⟩
          · obtain ⟨r41, h42, h⟩ := bind_some h
            rcases ite_some h with ⟨c43, h⟩ | ⟨c43, h⟩
            · rcases ite_some h with ⟨c44, h⟩ | ⟨c44, h⟩
              · rcases ite_some h with ⟨c45, h⟩ | ⟨c45, h⟩
                · simp at h
                · obtain ⟨h46, h⟩ := guard_some h
                  simp only [Option.some.injEq, Sum.inl.injEq] at h
                  subst h
                  have hq := tollwayref33_owns_L1_6 l_0 vehicle_1 t_2 k7 c26 c27 x29 h30 c31 c40 r41 h42 c43 c44 c45 h46
                  first | exact hq | exact Eq.mp (by simp only [tollwayref33_owns_L1_H, List.length_set] <;> rfl) hq
              · obtain ⟨h47, h⟩ := guard_some h
                simp only [Option.some.injEq, Sum.inl.injEq] at h
                subst h
                have hq := tollwayref33_owns_L1_7 l_0 vehicle_1 t_2 k7 c26 c27 x29 h30 c31 c40 r41 h42 c43 c44 h47
                first | exact hq | exact Eq.mp (by simp only [tollwayref33_owns_L1_H, List.length_set] <;> rfl) hq
            · obtain ⟨h48, h⟩ := guard_some h
              simp only [Option.some.injEq, Sum.inl.injEq] at h
              subst h
              have hq := tollwayref33_owns_L1_8 l_0 vehicle_1 t_2 k7 c26 c27 x29 h30 c31 c40 r41 h42 c43 h48
              first | exact hq | exact Eq.mp (by simp only [tollwayref33_owns_L1_H, List.length_set] <;> rfl) hq
          · obtain ⟨h49, h⟩ := guard_some h
            simp only [Option.some.injEq, Sum.inl.injEq] at h
            subst h
            have hq := tollwayref33_owns_L1_9 l_0 vehicle_1 t_2 k7 c26 c27 x29 h30 c31 c40 h49
            first | exact hq | exact Eq.mp (by simp only [tollwayref33_owns_L1_H, List.length_set] <;> rfl) hq
    · simp at h
  · revert h; revert s; intro k7 h
    unfold tollwayref33_owns_L1_step at h
    try dsimp only at h
    rcases ite_some h with ⟨c26, h⟩ | ⟨c26, h⟩
    · rcases ite_some h with ⟨c27, h⟩ | ⟨c27, h⟩
      · obtain ⟨h28, h⟩ := guard_some h
        simp at h
      · obtain ⟨x29, h30, h⟩ := bind_some h
        rcases ite_some h with ⟨c31, h⟩ | ⟨c31, h⟩
        · obtain ⟨r32, h33, h⟩ := bind_some h
          rcases ite_some h with ⟨c34, h⟩ | ⟨c34, h⟩
          · rcases ite_some h with ⟨c35, h⟩ | ⟨c35, h⟩
            · rcases ite_some h with ⟨c36, h⟩ | ⟨c36, h⟩
              · simp only [Option.some.injEq, Sum.inr.injEq] at h
                subst h
                exact ⟨tollwayref33_owns_L1_1 l_0 vehicle_1 t_2 k7 c26 c27 x29 h30 c31 r32 h33 c34 c35 c36, by intro q; cases q⟩
              · obtain ⟨h37, h⟩ := guard_some h
                simp at h
            · obtain ⟨h38, h⟩ := guard_some h
              simp at h
          · obtain ⟨h39, h⟩ := guard_some h
            simp at h
        · rcases ite_some h with ⟨c40, h⟩ | ⟨c40, h⟩
          · obtain ⟨r41, h42, h⟩ := bind_some h
            rcases ite_some h with ⟨c43, h⟩ | ⟨c43, h⟩
            · rcases ite_some h with ⟨c44, h⟩ | ⟨c44, h⟩
              · rcases ite_some h with ⟨c45, h⟩ | ⟨c45, h⟩
                · simp only [Option.some.injEq, Sum.inr.injEq] at h
                  subst h
                  exact ⟨tollwayref33_owns_L1_5 l_0 vehicle_1 t_2 k7 c26 c27 x29 h30 c31 c40 r41 h42 c43 c44 c45, by intro q; cases q⟩
                · obtain ⟨h46, h⟩ := guard_some h
                  simp at h
              · obtain ⟨h47, h⟩ := guard_some h
                simp at h
            · obtain ⟨h48, h⟩ := guard_some h
              simp at h
          · obtain ⟨h49, h⟩ := guard_some h
            simp at h
    · simp only [Option.some.injEq, Sum.inr.injEq] at h
      subst h
      exact ⟨tollwayref33_owns_L1_10 l_0 vehicle_1 t_2 k7 c26, by intro q; cases q⟩
noncomputable def tollwayref33_owns (l_0 : (List Tapi_Owned)) (vehicle_1 : (List UInt8)) (t_2 : Int) : Option Int :=
  (lp (tollwayref33_owns_L1_step l_0 vehicle_1 t_2) (0 : Nat)).bind fun qq => match qq with
  | Sum.inl o1 =>
    some o1
  | Sum.inr (o1) =>
    some (-1)
def tollwayref33_owns_p1 (l_0 : (List Tapi_Owned)) (vehicle_1 : (List UInt8)) (t_2 : Int) : List Prop := [((.lst (fl Tapi_Owned.enc l_0) l_0.length : AV) = .lst (fl Tapi_Owned.enc l_0) l_0.length), ((.str vehicle_1 : AV) = .str vehicle_1), ((.int .i64 t_2 : AV) = .int .i64 t_2), ((.int .i64 0 : AV) = .int .i64 (↑(0 : Nat) : Int))]
theorem tollwayref33_owns_p1q (l_0 : (List Tapi_Owned)) (vehicle_1 : (List UInt8)) (t_2 : Int) : allOk (tollwayref33_owns_p1 l_0 vehicle_1 t_2) := ⟨rfl, rfl, rfl, ok1 rfl⟩
theorem tollwayref33_owns_0 (l_0 : (List Tapi_Owned)) (vehicle_1 : (List UInt8)) (t_2 : Int) (o1 : Int) (hl1 : lp (tollwayref33_owns_L1_step l_0 vehicle_1 t_2) (0 : Nat) = some (Sum.inl o1)) : Ret Tryd.prog GT 63 [.lst (fl Tapi_Owned.enc l_0) l_0.length, .str vehicle_1, .int .i64 t_2] (.int .i64 o1) [] :=
  Ret.of_view 400 ((cs 2 []) ++ [.fcut 0 .ret [(6, .int .i64 o1)] [] [] [(0, .lst (fl Tapi_Owned.enc l_0) l_0.length), (1, .str vehicle_1), (2, .int .i64 t_2), (7, .int .i64 (↑(0 : Nat) : Int))] []]) [] (ps := ((tollwayref33_owns_p1 l_0 vehicle_1 t_2) ++ [(Does Tryd.prog GT 0 (.loop (bodyAt Tryd.prog 63 [1, 0, 1, 0, 0])) (S 63 [(0, .lst (fl Tapi_Owned.enc l_0) l_0.length), (1, .str vehicle_1), (2, .int .i64 t_2), (7, .int .i64 (↑(0 : Nat) : Int))] []) .ret (S 63 [(6, .int .i64 o1)] []))])) (by kernel_rfl) (by kernel_rfl) (allOk_append.2 ⟨(tollwayref33_owns_p1q l_0 vehicle_1 t_2), (ok1 (tollwayref33_owns_L1_does l_0 vehicle_1 t_2 hl1))⟩)
theorem tollwayref33_owns_1 (l_0 : (List Tapi_Owned)) (vehicle_1 : (List UInt8)) (t_2 : Int) (o1 : Unit) (hl1 : lp (tollwayref33_owns_L1_step l_0 vehicle_1 t_2) (0 : Nat) = some (Sum.inr (o1))) : Ret Tryd.prog GT 63 [.lst (fl Tapi_Owned.enc l_0) l_0.length, .str vehicle_1, .int .i64 t_2] (.int .i64 (-1)) [] :=
  Ret.of_view 400 ((cs 2 []) ++ [.fcut 0 (.exit 0) [] [] [] [(0, .lst (fl Tapi_Owned.enc l_0) l_0.length), (1, .str vehicle_1), (2, .int .i64 t_2), (7, .int .i64 (↑(0 : Nat) : Int))] [], .op none .c]) [] (ps := ((tollwayref33_owns_p1 l_0 vehicle_1 t_2) ++ [(Does Tryd.prog GT 0 (.loop (bodyAt Tryd.prog 63 [1, 0, 1, 0, 0])) (S 63 [(0, .lst (fl Tapi_Owned.enc l_0) l_0.length), (1, .str vehicle_1), (2, .int .i64 t_2), (7, .int .i64 (↑(0 : Nat) : Int))] []) (.exit 0) (S 63 [] []))])) (by kernel_rfl) (by kernel_rfl) (allOk_append.2 ⟨(tollwayref33_owns_p1q l_0 vehicle_1 t_2), (ok1 (tollwayref33_owns_L1_does l_0 vehicle_1 t_2 hl1))⟩)
theorem tollwayref33_owns_ret (l_0 : (List Tapi_Owned)) (vehicle_1 : (List UInt8)) (t_2 : Int) (r : Int) (h : tollwayref33_owns l_0 vehicle_1 t_2 = some r) : Ret Tryd.prog GT 63 [.lst (fl Tapi_Owned.enc l_0) l_0.length, .str vehicle_1, .int .i64 t_2] (.int .i64 r) [] := by
  unfold tollwayref33_owns at h
  obtain ⟨qq, hl1, h⟩ := bind_some h
  rcases qq with o1 | o1
  · dsimp only at h
    simp only [Option.some.injEq] at h
    subst h
    exact tollwayref33_owns_0 l_0 vehicle_1 t_2 o1 hl1
  · dsimp only at h
    simp only [Option.some.injEq] at h
    subst h
    exact tollwayref33_owns_1 l_0 vehicle_1 t_2 o1 hl1
noncomputable def account_Owner_L1_step (l_0 : (List Tapi_Account)) (vehicle_1 : (List UInt8)) (t_2 : Int) : Nat → Option (Nat ⊕ ((List UInt8) ⊕ Unit)) := fun k12 =>
  if (↑k12 : Int) < (↑l_0.length : Int) then
    (l_0[k12]?).bind fun x10 =>
    (account_owned x10.Owned vehicle_1 t_2).bind fun r12 =>
    if r12 ≥ (0 : Int) then
      some (Sum.inr (Sum.inl x10.Name))
    else
      if InR .i64 ((↑k12 : Int) + 1) then
        some (Sum.inl (k12 + 1))
      else none
  else
    some (Sum.inr (Sum.inr (())))
def account_Owner_L1_H (l_0 : (List Tapi_Account)) (vehicle_1 : (List UInt8)) (t_2 : Int) : Nat → St := fun (s : Nat) => S 25 [(1, .str vehicle_1), (2, .int .i64 t_2), (10, .lst (fl Tapi_Account.enc l_0) l_0.length), (11, .int .i64 (↑l_0.length : Int)), (12, .int .i64 (↑s : Int))] []
theorem account_Owner_L1_0 (l_0 : (List Tapi_Account)) (vehicle_1 : (List UInt8)) (t_2 : Int) (k12 : Nat) (c9 : (↑k12 : Int) < (↑l_0.length : Int)) (x10 : Tapi_Account) (h11 : l_0[k12]? = some x10) (r12 : Int) (h13 : account_owned x10.Owned vehicle_1 t_2 = some r12) (c14 : r12 ≥ (0 : Int)) : Does Tryd.prog GT 0 (bodyAt Tryd.prog 37 [1, 0, 1, 0, 0]) (account_Owner_L1_H l_0 vehicle_1 t_2 k12) .ret (S 25 [(6, .str x10.Name), (7, .bool true)] []) :=
  Does.of_viewM 0 400 ((.op none .a) :: (.br true) :: (.op none (.i k12)) :: (.op none (.v [.str x10.Name, .str x10.Agency, .bool x10.Prepay, .lst (fl Tapi_Owned.enc x10.Owned) x10.Owned.length, .int .i64 x10.Refill.Below, .int .i64 x10.Refill.Cents, .int .i64 x10.Refill.Tries, .int .i64 x10.Refill.Wait, .bool x10.Exempt])) :: (cs 6 ((.ret none [.lst (fl Tapi_Owned.enc x10.Owned) x10.Owned.length, .str vehicle_1, .int .i64 t_2] (.int .i64 r12) []) :: (.op none .a) :: (.br true) :: (cs 4 [])))) [] (ps := [((decide ((↑k12 : Int) < (↑l_0.length : Int))) = true), ((↑k12 : Int) = ((k12 : Nat) : Int) ∧ k12 < l_0.length), ((fl Tapi_Account.enc l_0) ≠ []), (sub (fl Tapi_Account.enc l_0) (k12 * 9) 9 = [.str x10.Name, .str x10.Agency, .bool x10.Prepay, .lst (fl Tapi_Owned.enc x10.Owned) x10.Owned.length, .int .i64 x10.Refill.Below, .int .i64 x10.Refill.Cents, .int .i64 x10.Refill.Tries, .int .i64 x10.Refill.Wait, .bool x10.Exempt]), ((.lst (fl Tapi_Owned.enc x10.Owned) x10.Owned.length : AV) = .lst (fl Tapi_Owned.enc x10.Owned) x10.Owned.length), ((.str vehicle_1 : AV) = .str vehicle_1), ((.int .i64 t_2 : AV) = .int .i64 t_2), (Ret Tryd.prog GT 62 [.lst (fl Tapi_Owned.enc x10.Owned) x10.Owned.length, .str vehicle_1, .int .i64 t_2] (.int .i64 r12) []), ((decide (r12 ≥ (0 : Int))) = true)]) (by kernel_rfl) (by kernel_rfl) ⟨(decide_eq_true c9), ⟨rfl, get_lt h11⟩, (fl_ne (f := Tapi_Account.enc) (z := 8) (fun _ => rfl) h11), (fl_sub0 (f := Tapi_Account.enc) (z := 9) (j := k12) (fun _ => rfl) h11 rfl), rfl, rfl, rfl, (account_owned_ret x10.Owned vehicle_1 t_2 r12 h13), ok1 (decide_eq_true c14)⟩
theorem account_Owner_L1_1 (l_0 : (List Tapi_Account)) (vehicle_1 : (List UInt8)) (t_2 : Int) (k12 : Nat) (c9 : (↑k12 : Int) < (↑l_0.length : Int)) (x10 : Tapi_Account) (h11 : l_0[k12]? = some x10) (r12 : Int) (h13 : account_owned x10.Owned vehicle_1 t_2 = some r12) (c14 : ¬ (r12 ≥ (0 : Int))) (h15 : InR .i64 ((↑k12 : Int) + 1)) : Does Tryd.prog GT 0 (bodyAt Tryd.prog 37 [1, 0, 1, 0, 0]) (account_Owner_L1_H l_0 vehicle_1 t_2 k12) .normal (S 25 [(1, .str vehicle_1), (2, .int .i64 t_2), (10, .lst (fl Tapi_Account.enc l_0) l_0.length), (11, .int .i64 (↑l_0.length : Int)), (12, .int .i64 ((↑k12 : Int) + 1))] []) :=
  Does.of_viewM 0 400 ((.op none .a) :: (.br true) :: (.op none (.i k12)) :: (.op none (.v [.str x10.Name, .str x10.Agency, .bool x10.Prepay, .lst (fl Tapi_Owned.enc x10.Owned) x10.Owned.length, .int .i64 x10.Refill.Below, .int .i64 x10.Refill.Cents, .int .i64 x10.Refill.Tries, .int .i64 x10.Refill.Wait, .bool x10.Exempt])) :: (cs 6 [.ret none [.lst (fl Tapi_Owned.enc x10.Owned) x10.Owned.length, .str vehicle_1, .int .i64 t_2] (.int .i64 r12) [], .op none .a, .br false, .op none .w, .op none .c])) [] (ps := [((decide ((↑k12 : Int) < (↑l_0.length : Int))) = true), ((↑k12 : Int) = ((k12 : Nat) : Int) ∧ k12 < l_0.length), ((fl Tapi_Account.enc l_0) ≠ []), (sub (fl Tapi_Account.enc l_0) (k12 * 9) 9 = [.str x10.Name, .str x10.Agency, .bool x10.Prepay, .lst (fl Tapi_Owned.enc x10.Owned) x10.Owned.length, .int .i64 x10.Refill.Below, .int .i64 x10.Refill.Cents, .int .i64 x10.Refill.Tries, .int .i64 x10.Refill.Wait, .bool x10.Exempt]), ((.lst (fl Tapi_Owned.enc x10.Owned) x10.Owned.length : AV) = .lst (fl Tapi_Owned.enc x10.Owned) x10.Owned.length), ((.str vehicle_1 : AV) = .str vehicle_1), ((.int .i64 t_2 : AV) = .int .i64 t_2), (Ret Tryd.prog GT 62 [.lst (fl Tapi_Owned.enc x10.Owned) x10.Owned.length, .str vehicle_1, .int .i64 t_2] (.int .i64 r12) []), ((decide (r12 ≥ (0 : Int))) = false), (IntKind.min .i64 ≤ ((↑k12 : Int) + 1) ∧ ((↑k12 : Int) + 1) ≤ IntKind.max .i64)]) (by kernel_rfl) (by kernel_rfl) ⟨(decide_eq_true c9), ⟨rfl, get_lt h11⟩, (fl_ne (f := Tapi_Account.enc) (z := 8) (fun _ => rfl) h11), (fl_sub0 (f := Tapi_Account.enc) (z := 9) (j := k12) (fun _ => rfl) h11 rfl), rfl, rfl, rfl, (account_owned_ret x10.Owned vehicle_1 t_2 r12 h13), (decide_eq_false c14), ok1 h15⟩
theorem account_Owner_L1_2 (l_0 : (List Tapi_Account)) (vehicle_1 : (List UInt8)) (t_2 : Int) (k12 : Nat) (c9 : ¬ ((↑k12 : Int) < (↑l_0.length : Int))) : Does Tryd.prog GT 0 (bodyAt Tryd.prog 37 [1, 0, 1, 0, 0]) (account_Owner_L1_H l_0 vehicle_1 t_2 k12) (.exit 0) (S 25 [] []) :=
  Does.of_viewM 0 400 [.op none .a, .br false] [] (ps := [((decide ((↑k12 : Int) < (↑l_0.length : Int))) = false)]) (by kernel_rfl) (by kernel_rfl) (ok1 (decide_eq_false c9))
def account_Owner_L1_X (l_0 : (List Tapi_Account)) (vehicle_1 : (List UInt8)) (t_2 : Int) : ((List UInt8) ⊕ Unit) → AEx := fun q => match q with | Sum.inl o => .ret | Sum.inr (o) => (.exit 0)
def account_Owner_L1_E (l_0 : (List Tapi_Account)) (vehicle_1 : (List UInt8)) (t_2 : Int) : ((List UInt8) ⊕ Unit) → St := fun q => match q with | Sum.inl o => S 25 [(6, .str o), (7, .bool true)] [] | Sum.inr (o) => S 25 [] []
theorem account_Owner_L1_does (l_0 : (List Tapi_Account)) (vehicle_1 : (List UInt8)) (t_2 : Int) {s : Nat} {r : (List UInt8) ⊕ Unit} (h : lp (account_Owner_L1_step l_0 vehicle_1 t_2) s = some r) : Does Tryd.prog GT 0 (.loop (bodyAt Tryd.prog 37 [1, 0, 1, 0, 0])) (account_Owner_L1_H l_0 vehicle_1 t_2 s) (account_Owner_L1_X l_0 vehicle_1 t_2 r) (account_Owner_L1_E l_0 vehicle_1 t_2 r) := by
  refine Does.lp (H := account_Owner_L1_H l_0 vehicle_1 t_2) (X := account_Owner_L1_X l_0 vehicle_1 t_2) (E := account_Owner_L1_E l_0 vehicle_1 t_2) (fun s s2 h => ?_) (fun s r h => ?_) h
  · revert h; revert s; intro k12 h
    unfold account_Owner_L1_step at h
    try dsimp only at h
    rcases ite_some h with ⟨c9, h⟩ | ⟨c9, h⟩
    · obtain ⟨x10, h11, h⟩ := bind_some h
      obtain ⟨r12, h13, h⟩ := bind_some h
      rcases ite_some h with ⟨c14, h⟩ | ⟨c14, h⟩
      · simp at h
      · obtain ⟨h15, h⟩ := guard_some h
        simp only [Option.some.injEq, Sum.inl.injEq] at h
        subst h
        have hq := account_Owner_L1_1 l_0 vehicle_1 t_2 k12 c9 x10 h11 r12 h13 c14 h15
        first | exact hq | exact Eq.mp (by simp only [account_Owner_L1_H, List.length_set] <;> rfl) hq
    · simp at h
  · revert h; revert s; intro k12 h
    unfold account_Owner_L1_step at h
    try dsimp only at h
    rcases ite_some h with ⟨c9, h⟩ | ⟨c9, h⟩
    · obtain ⟨x10, h11, h⟩ := bind_some h
      obtain ⟨r12, h13, h⟩ := bind_some h
      rcases ite_some h with ⟨c14, h⟩ | ⟨c14, h⟩
      · simp only [Option.some.injEq, Sum.inr.injEq] at h
        subst h
        exact ⟨account_Owner_L1_0 l_0 vehicle_1 t_2 k12 c9 x10 h11 r12 h13 c14, by intro q; cases q⟩
      · obtain ⟨h15, h⟩ := guard_some h
        simp at h
    · simp only [Option.some.injEq, Sum.inr.injEq] at h
      subst h
      exact ⟨account_Owner_L1_2 l_0 vehicle_1 t_2 k12 c9, by intro q; cases q⟩
noncomputable def account_Owner (l_0 : (List Tapi_Account)) (vehicle_1 : (List UInt8)) (t_2 : Int) : Option ((List UInt8) × Bool) :=
  (lp (account_Owner_L1_step l_0 vehicle_1 t_2) (0 : Nat)).bind fun qq => match qq with
  | Sum.inl o1 =>
    some (o1, true)
  | Sum.inr (o1) =>
    some (([] : List UInt8), false)
def account_Owner_h1  : List CH := (cs 5 [])
def account_Owner_p2 (l_0 : (List Tapi_Account)) (vehicle_1 : (List UInt8)) (t_2 : Int) : List Prop := [((.str vehicle_1 : AV) = .str vehicle_1), ((.int .i64 t_2 : AV) = .int .i64 t_2), ((.lst (fl Tapi_Account.enc l_0) l_0.length : AV) = .lst (fl Tapi_Account.enc l_0) l_0.length), ((.int .i64 (↑l_0.length : Int) : AV) = .int .i64 (↑l_0.length : Int)), ((.int .i64 0 : AV) = .int .i64 (↑(0 : Nat) : Int))]
theorem account_Owner_p2q (l_0 : (List Tapi_Account)) (vehicle_1 : (List UInt8)) (t_2 : Int) : allOk (account_Owner_p2 l_0 vehicle_1 t_2) := ⟨rfl, rfl, rfl, rfl, ok1 rfl⟩
theorem account_Owner_0 (l_0 : (List Tapi_Account)) (vehicle_1 : (List UInt8)) (t_2 : Int) (o1 : (List UInt8)) (hl1 : lp (account_Owner_L1_step l_0 vehicle_1 t_2) (0 : Nat) = some (Sum.inl o1)) : Ret Tryd.prog GT 37 [.lst (fl Tapi_Account.enc l_0) l_0.length, .str vehicle_1, .int .i64 t_2] (.tup [.str o1, .bool true]) [] :=
  Ret.of_view 400 ((account_Owner_h1) ++ [.fcut 0 .ret [(6, .str o1), (7, .bool true)] [] [] [(1, .str vehicle_1), (2, .int .i64 t_2), (10, .lst (fl Tapi_Account.enc l_0) l_0.length), (11, .int .i64 (↑l_0.length : Int)), (12, .int .i64 (↑(0 : Nat) : Int))] []]) [] (ps := ((account_Owner_p2 l_0 vehicle_1 t_2) ++ [(Does Tryd.prog GT 0 (.loop (bodyAt Tryd.prog 37 [1, 0, 1, 0, 0])) (S 25 [(1, .str vehicle_1), (2, .int .i64 t_2), (10, .lst (fl Tapi_Account.enc l_0) l_0.length), (11, .int .i64 (↑l_0.length : Int)), (12, .int .i64 (↑(0 : Nat) : Int))] []) .ret (S 25 [(6, .str o1), (7, .bool true)] []))])) (by kernel_rfl) (by kernel_rfl) (allOk_append.2 ⟨(account_Owner_p2q l_0 vehicle_1 t_2), (ok1 (account_Owner_L1_does l_0 vehicle_1 t_2 hl1))⟩)
theorem account_Owner_1 (l_0 : (List Tapi_Account)) (vehicle_1 : (List UInt8)) (t_2 : Int) (o1 : Unit) (hl1 : lp (account_Owner_L1_step l_0 vehicle_1 t_2) (0 : Nat) = some (Sum.inr (o1))) : Ret Tryd.prog GT 37 [.lst (fl Tapi_Account.enc l_0) l_0.length, .str vehicle_1, .int .i64 t_2] (.tup [.str [], .bool false]) [] :=
  Ret.of_view 400 ((account_Owner_h1) ++ ((.fcut 0 (.exit 0) [] [] [] [(1, .str vehicle_1), (2, .int .i64 t_2), (10, .lst (fl Tapi_Account.enc l_0) l_0.length), (11, .int .i64 (↑l_0.length : Int)), (12, .int .i64 (↑(0 : Nat) : Int))] []) :: (cs 2 []))) [] (ps := ((account_Owner_p2 l_0 vehicle_1 t_2) ++ [(Does Tryd.prog GT 0 (.loop (bodyAt Tryd.prog 37 [1, 0, 1, 0, 0])) (S 25 [(1, .str vehicle_1), (2, .int .i64 t_2), (10, .lst (fl Tapi_Account.enc l_0) l_0.length), (11, .int .i64 (↑l_0.length : Int)), (12, .int .i64 (↑(0 : Nat) : Int))] []) (.exit 0) (S 25 [] []))])) (by kernel_rfl) (by kernel_rfl) (allOk_append.2 ⟨(account_Owner_p2q l_0 vehicle_1 t_2), (ok1 (account_Owner_L1_does l_0 vehicle_1 t_2 hl1))⟩)
theorem account_Owner_ret (l_0 : (List Tapi_Account)) (vehicle_1 : (List UInt8)) (t_2 : Int) (r : ((List UInt8) × Bool)) (h : account_Owner l_0 vehicle_1 t_2 = some r) : Ret Tryd.prog GT 37 [.lst (fl Tapi_Account.enc l_0) l_0.length, .str vehicle_1, .int .i64 t_2] (.tup [.str r.1, .bool r.2]) [] := by
  unfold account_Owner at h
  obtain ⟨qq, hl1, h⟩ := bind_some h
  rcases qq with o1 | o1
  · dsimp only at h
    simp only [Option.some.injEq] at h
    subst h
    exact account_Owner_0 l_0 vehicle_1 t_2 o1 hl1
  · dsimp only at h
    simp only [Option.some.injEq] at h
    subst h
    exact account_Owner_1 l_0 vehicle_1 t_2 o1 hl1
noncomputable def tollwayref33_Owner_L1_step (l_0 : (List Tapi_Account)) (vehicle_1 : (List UInt8)) (t_2 : Int) : Nat → Option (Nat ⊕ ((List UInt8) ⊕ Unit)) := fun k8 =>
  if (↑k8 : Int) < (↑l_0.length : Int) then
    (l_0[k8]?).bind fun x10 =>
    (tollwayref33_owns x10.Owned vehicle_1 t_2).bind fun r12 =>
    if r12 ≥ (0 : Int) then
      some (Sum.inr (Sum.inl x10.Name))
    else
      if InR .i64 ((↑k8 : Int) + 1) then
        some (Sum.inl (k8 + 1))
      else none
  else
    some (Sum.inr (Sum.inr (())))
def tollwayref33_Owner_L1_H (l_0 : (List Tapi_Account)) (vehicle_1 : (List UInt8)) (t_2 : Int) : Nat → St := fun (s : Nat) => S 29 [(0, .lst (fl Tapi_Account.enc l_0) l_0.length), (1, .str vehicle_1), (2, .int .i64 t_2), (8, .int .i64 (↑s : Int))] []
theorem tollwayref33_Owner_L1_0 (l_0 : (List Tapi_Account)) (vehicle_1 : (List UInt8)) (t_2 : Int) (k8 : Nat) (c9 : (↑k8 : Int) < (↑l_0.length : Int)) (x10 : Tapi_Account) (h11 : l_0[k8]? = some x10) (r12 : Int) (h13 : tollwayref33_owns x10.Owned vehicle_1 t_2 = some r12) (c14 : r12 ≥ (0 : Int)) : Does Tryd.prog GT 0 (bodyAt Tryd.prog 42 [1, 0, 1, 0, 0]) (tollwayref33_Owner_L1_H l_0 vehicle_1 t_2 k8) .ret (S 29 [(6, .str x10.Name), (7, .bool true)] []) :=
  Does.of_viewM 0 400 (cs 3 ((.op none .a) :: (.br true) :: (cs 2 ((.op none (.i k8)) :: (.op none .c) :: (.op none (.v [.lst (fl Tapi_Owned.enc x10.Owned) x10.Owned.length])) :: (cs 2 ((.ret none [.lst (fl Tapi_Owned.enc x10.Owned) x10.Owned.length, .str vehicle_1, .int .i64 t_2] (.int .i64 r12) []) :: (.op none .a) :: (.br true) :: (cs 2 ((.op none (.i k8)) :: (.op none .c) :: (.op none (.v [.str x10.Name])) :: (cs 2 []))))))))) [] (ps := [((decide ((↑k8 : Int) < (↑l_0.length : Int))) = true), ((↑k8 : Int) = ((k8 : Nat) : Int) ∧ k8 < l_0.length), ((fl Tapi_Account.enc l_0) ≠ []), (sub (fl Tapi_Account.enc l_0) ((k8 * 9) + 3) 1 = [.lst (fl Tapi_Owned.enc x10.Owned) x10.Owned.length]), ((.lst (fl Tapi_Owned.enc x10.Owned) x10.Owned.length : AV) = .lst (fl Tapi_Owned.enc x10.Owned) x10.Owned.length), ((.str vehicle_1 : AV) = .str vehicle_1), ((.int .i64 t_2 : AV) = .int .i64 t_2), (Ret Tryd.prog GT 63 [.lst (fl Tapi_Owned.enc x10.Owned) x10.Owned.length, .str vehicle_1, .int .i64 t_2] (.int .i64 r12) []), ((decide (r12 ≥ (0 : Int))) = true), ((↑k8 : Int) = ((k8 : Nat) : Int) ∧ k8 < l_0.length), ((fl Tapi_Account.enc l_0) ≠ []), (sub (fl Tapi_Account.enc l_0) (k8 * 9) 1 = [.str x10.Name])]) (by kernel_rfl) (by kernel_rfl) ⟨(decide_eq_true c9), ⟨rfl, get_lt h11⟩, (fl_ne (f := Tapi_Account.enc) (z := 8) (fun _ => rfl) h11), (fl_sub (f := Tapi_Account.enc) (z := 9) (j := k8) (a := 3) (n := 1) (fun _ => rfl) h11 (by decide) rfl), rfl, rfl, rfl, (tollwayref33_owns_ret x10.Owned vehicle_1 t_2 r12 h13), (decide_eq_true c14), ⟨rfl, get_lt h11⟩, (fl_ne (f := Tapi_Account.enc) (z := 8) (fun _ => rfl) h11), ok1 (fl_sub (f := Tapi_Account.enc) (z := 9) (j := k8) (a := 0) (n := 1) (fun _ => rfl) h11 (by decide) rfl)⟩
theorem tollwayref33_Owner_L1_1 (l_0 : (List Tapi_Account)) (vehicle_1 : (List UInt8)) (t_2 : Int) (k8 : Nat) (c9 : (↑k8 : Int) < (↑l_0.length : Int)) (x10 : Tapi_Account) (h11 : l_0[k8]? = some x10) (r12 : Int) (h13 : tollwayref33_owns x10.Owned vehicle_1 t_2 = some r12) (c14 : ¬ (r12 ≥ (0 : Int))) (h15 : InR .i64 ((↑k8 : Int) + 1)) : Does Tryd.prog GT 0 (bodyAt Tryd.prog 42 [1, 0, 1, 0, 0]) (tollwayref33_Owner_L1_H l_0 vehicle_1 t_2 k8) .normal (S 29 [(0, .lst (fl Tapi_Account.enc l_0) l_0.length), (1, .str vehicle_1), (2, .int .i64 t_2), (8, .int .i64 ((↑k8 : Int) + 1))] []) :=
  Does.of_viewM 0 400 (cs 3 ((.op none .a) :: (.br true) :: (cs 2 ((.op none (.i k8)) :: (.op none .c) :: (.op none (.v [.lst (fl Tapi_Owned.enc x10.Owned) x10.Owned.length])) :: (cs 2 [.ret none [.lst (fl Tapi_Owned.enc x10.Owned) x10.Owned.length, .str vehicle_1, .int .i64 t_2] (.int .i64 r12) [], .op none .a, .br false, .op none .c, .op none .w, .op none .c]))))) [] (ps := [((decide ((↑k8 : Int) < (↑l_0.length : Int))) = true), ((↑k8 : Int) = ((k8 : Nat) : Int) ∧ k8 < l_0.length), ((fl Tapi_Account.enc l_0) ≠ []), (sub (fl Tapi_Account.enc l_0) ((k8 * 9) + 3) 1 = [.lst (fl Tapi_Owned.enc x10.Owned) x10.Owned.length]), ((.lst (fl Tapi_Owned.enc x10.Owned) x10.Owned.length : AV) = .lst (fl Tapi_Owned.enc x10.Owned) x10.Owned.length), ((.str vehicle_1 : AV) = .str vehicle_1), ((.int .i64 t_2 : AV) = .int .i64 t_2), (Ret Tryd.prog GT 63 [.lst (fl Tapi_Owned.enc x10.Owned) x10.Owned.length, .str vehicle_1, .int .i64 t_2] (.int .i64 r12) []), ((decide (r12 ≥ (0 : Int))) = false), (IntKind.min .i64 ≤ ((↑k8 : Int) + 1) ∧ ((↑k8 : Int) + 1) ≤ IntKind.max .i64)]) (by kernel_rfl) (by kernel_rfl) ⟨(decide_eq_true c9), ⟨rfl, get_lt h11⟩, (fl_ne (f := Tapi_Account.enc) (z := 8) (fun _ => rfl) h11), (fl_sub (f := Tapi_Account.enc) (z := 9) (j := k8) (a := 3) (n := 1) (fun _ => rfl) h11 (by decide) rfl), rfl, rfl, rfl, (tollwayref33_owns_ret x10.Owned vehicle_1 t_2 r12 h13), (decide_eq_false c14), ok1 h15⟩
theorem tollwayref33_Owner_L1_2 (l_0 : (List Tapi_Account)) (vehicle_1 : (List UInt8)) (t_2 : Int) (k8 : Nat) (c9 : ¬ ((↑k8 : Int) < (↑l_0.length : Int))) : Does Tryd.prog GT 0 (bodyAt Tryd.prog 42 [1, 0, 1, 0, 0]) (tollwayref33_Owner_L1_H l_0 vehicle_1 t_2 k8) (.exit 0) (S 29 [] []) :=
  Does.of_viewM 0 400 (cs 3 [.op none .a, .br false]) [] (ps := [((decide ((↑k8 : Int) < (↑l_0.length : Int))) = false)]) (by kernel_rfl) (by kernel_rfl) (ok1 (decide_eq_false c9))
def tollwayref33_Owner_L1_X (l_0 : (List Tapi_Account)) (vehicle_1 : (List UInt8)) (t_2 : Int) : ((List UInt8) ⊕ Unit) → AEx := fun q => match q with | Sum.inl o => .ret | Sum.inr (o) => (.exit 0)
def tollwayref33_Owner_L1_E (l_0 : (List Tapi_Account)) (vehicle_1 : (List UInt8)) (t_2 : Int) : ((List UInt8) ⊕ Unit) → St := fun q => match q with | Sum.inl o => S 29 [(6, .str o), (7, .bool true)] [] | Sum.inr (o) => S 29 [] []
theorem tollwayref33_Owner_L1_does (l_0 : (List Tapi_Account)) (vehicle_1 : (List UInt8)) (t_2 : Int) {s : Nat} {r : (List UInt8) ⊕ Unit} (h : lp (tollwayref33_Owner_L1_step l_0 vehicle_1 t_2) s = some r) : Does Tryd.prog GT 0 (.loop (bodyAt Tryd.prog 42 [1, 0, 1, 0, 0])) (tollwayref33_Owner_L1_H l_0 vehicle_1 t_2 s) (tollwayref33_Owner_L1_X l_0 vehicle_1 t_2 r) (tollwayref33_Owner_L1_E l_0 vehicle_1 t_2 r) := by
  refine Does.lp (H := tollwayref33_Owner_L1_H l_0 vehicle_1 t_2) (X := tollwayref33_Owner_L1_X l_0 vehicle_1 t_2) (E := tollwayref33_Owner_L1_E l_0 vehicle_1 t_2) (fun s s2 h => ?_) (fun s r h => ?_) h
  · revert h; revert s; intro k8 h
    unfold tollwayref33_Owner_L1_step at h
    try dsimp only at h
    rcases ite_some h with ⟨c9, h⟩ | ⟨c9, h⟩
    · obtain ⟨x10, h11, h⟩ := bind_some h
      obtain ⟨r12, h13, h⟩ := bind_some h
      rcases ite_some h with ⟨c14, h⟩ | ⟨c14, h⟩
      · simp at h
      · obtain ⟨h15, h⟩ := guard_some h
        simp only [Option.some.injEq, Sum.inl.injEq] at h
        subst h
        have hq := tollwayref33_Owner_L1_1 l_0 vehicle_1 t_2 k8 c9 x10 h11 r12 h13 c14 h15
        first | exact hq | exact Eq.mp (by simp only [tollwayref33_Owner_L1_H, List.length_set] <;> rfl) hq
    · simp at h
  · revert h; revert s; intro k8 h
    unfold tollwayref33_Owner_L1_step at h
    try dsimp only at h
    rcases ite_some h with ⟨c9, h⟩ | ⟨c9, h⟩
    · obtain ⟨x10, h11, h⟩ := bind_some h
      obtain ⟨r12, h13, h⟩ := bind_some h
      rcases ite_some h with ⟨c14, h⟩ | ⟨c14, h⟩
      · simp only [Option.some.injEq, Sum.inr.injEq] at h
        subst h
        exact ⟨tollwayref33_Owner_L1_0 l_0 vehicle_1 t_2 k8 c9 x10 h11 r12 h13 c14, by intro q; cases q⟩
      · obtain ⟨h15, h⟩ := guard_some h
        simp at h
    · simp only [Option.some.injEq, Sum.inr.injEq] at h
      subst h
      exact ⟨tollwayref33_Owner_L1_2 l_0 vehicle_1 t_2 k8 c9, by intro q; cases q⟩
noncomputable def tollwayref33_Owner (l_0 : (List Tapi_Account)) (vehicle_1 : (List UInt8)) (t_2 : Int) : Option ((List UInt8) × Bool) :=
  (lp (tollwayref33_Owner_L1_step l_0 vehicle_1 t_2) (0 : Nat)).bind fun qq => match qq with
  | Sum.inl o1 =>
    some (o1, true)
  | Sum.inr (o1) =>
    some (([] : List UInt8), false)
def tollwayref33_Owner_h1  : List CH := (cs 3 [])
def tollwayref33_Owner_p2 (l_0 : (List Tapi_Account)) (vehicle_1 : (List UInt8)) (t_2 : Int) : List Prop := [((.lst (fl Tapi_Account.enc l_0) l_0.length : AV) = .lst (fl Tapi_Account.enc l_0) l_0.length), ((.str vehicle_1 : AV) = .str vehicle_1), ((.int .i64 t_2 : AV) = .int .i64 t_2), ((.int .i64 0 : AV) = .int .i64 (↑(0 : Nat) : Int))]
theorem tollwayref33_Owner_p2q (l_0 : (List Tapi_Account)) (vehicle_1 : (List UInt8)) (t_2 : Int) : allOk (tollwayref33_Owner_p2 l_0 vehicle_1 t_2) := ⟨rfl, rfl, rfl, ok1 rfl⟩
theorem tollwayref33_Owner_0 (l_0 : (List Tapi_Account)) (vehicle_1 : (List UInt8)) (t_2 : Int) (o1 : (List UInt8)) (hl1 : lp (tollwayref33_Owner_L1_step l_0 vehicle_1 t_2) (0 : Nat) = some (Sum.inl o1)) : Ret Tryd.prog GT 42 [.lst (fl Tapi_Account.enc l_0) l_0.length, .str vehicle_1, .int .i64 t_2] (.tup [.str o1, .bool true]) [] :=
  Ret.of_view 400 ((tollwayref33_Owner_h1) ++ [.fcut 0 .ret [(6, .str o1), (7, .bool true)] [] [] [(0, .lst (fl Tapi_Account.enc l_0) l_0.length), (1, .str vehicle_1), (2, .int .i64 t_2), (8, .int .i64 (↑(0 : Nat) : Int))] []]) [] (ps := ((tollwayref33_Owner_p2 l_0 vehicle_1 t_2) ++ [(Does Tryd.prog GT 0 (.loop (bodyAt Tryd.prog 42 [1, 0, 1, 0, 0])) (S 29 [(0, .lst (fl Tapi_Account.enc l_0) l_0.length), (1, .str vehicle_1), (2, .int .i64 t_2), (8, .int .i64 (↑(0 : Nat) : Int))] []) .ret (S 29 [(6, .str o1), (7, .bool true)] []))])) (by kernel_rfl) (by kernel_rfl) (allOk_append.2 ⟨(tollwayref33_Owner_p2q l_0 vehicle_1 t_2), (ok1 (tollwayref33_Owner_L1_does l_0 vehicle_1 t_2 hl1))⟩)
theorem tollwayref33_Owner_1 (l_0 : (List Tapi_Account)) (vehicle_1 : (List UInt8)) (t_2 : Int) (o1 : Unit) (hl1 : lp (tollwayref33_Owner_L1_step l_0 vehicle_1 t_2) (0 : Nat) = some (Sum.inr (o1))) : Ret Tryd.prog GT 42 [.lst (fl Tapi_Account.enc l_0) l_0.length, .str vehicle_1, .int .i64 t_2] (.tup [.str [], .bool false]) [] :=
  Ret.of_view 400 ((tollwayref33_Owner_h1) ++ ((.fcut 0 (.exit 0) [] [] [] [(0, .lst (fl Tapi_Account.enc l_0) l_0.length), (1, .str vehicle_1), (2, .int .i64 t_2), (8, .int .i64 (↑(0 : Nat) : Int))] []) :: (cs 2 []))) [] (ps := ((tollwayref33_Owner_p2 l_0 vehicle_1 t_2) ++ [(Does Tryd.prog GT 0 (.loop (bodyAt Tryd.prog 42 [1, 0, 1, 0, 0])) (S 29 [(0, .lst (fl Tapi_Account.enc l_0) l_0.length), (1, .str vehicle_1), (2, .int .i64 t_2), (8, .int .i64 (↑(0 : Nat) : Int))] []) (.exit 0) (S 29 [] []))])) (by kernel_rfl) (by kernel_rfl) (allOk_append.2 ⟨(tollwayref33_Owner_p2q l_0 vehicle_1 t_2), (ok1 (tollwayref33_Owner_L1_does l_0 vehicle_1 t_2 hl1))⟩)
theorem tollwayref33_Owner_ret (l_0 : (List Tapi_Account)) (vehicle_1 : (List UInt8)) (t_2 : Int) (r : ((List UInt8) × Bool)) (h : tollwayref33_Owner l_0 vehicle_1 t_2 = some r) : Ret Tryd.prog GT 42 [.lst (fl Tapi_Account.enc l_0) l_0.length, .str vehicle_1, .int .i64 t_2] (.tup [.str r.1, .bool r.2]) [] := by
  unfold tollwayref33_Owner at h
  obtain ⟨qq, hl1, h⟩ := bind_some h
  rcases qq with o1 | o1
  · dsimp only at h
    simp only [Option.some.injEq] at h
    subst h
    exact tollwayref33_Owner_0 l_0 vehicle_1 t_2 o1 hl1
  · dsimp only at h
    simp only [Option.some.injEq] at h
    subst h
    exact tollwayref33_Owner_1 l_0 vehicle_1 t_2 o1 hl1
end Go.Proofs.YtalobodhbbkgdabDoor.Av
