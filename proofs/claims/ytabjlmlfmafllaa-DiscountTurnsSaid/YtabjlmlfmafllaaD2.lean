import Derived.Test.YtabjlmlfmafllaaAvX
import Derived.Test.YtabjlmlfmafllaaProg
import Derived.Tactics
import Derived.Test.YtabjlmlfmafllaaDA
set_option linter.unusedVariables false
set_option linter.unusedSimpArgs false
set_option maxHeartbeats 4000000
namespace Go.Proofs.Ytabjlmlfmafllaa.Av
open Go Go.Proofs
noncomputable def discount_CheckAll_L31_step (l_0 : (List Tapi_Discount)) (k11 : Nat) (x25 : Tapi_Discount) : Nat → Option (Nat ⊕ (Int ⊕ Unit)) := fun k8 =>
  if (↑k8 : Int) < (↑((List.take k11 l_0).length) : Int) then
    ((List.take k11 l_0)[k8]?).bind fun x38 =>
    if x38.Name = x25.Name then
      some (Sum.inr (Sum.inl (↑k8 : Int)))
    else
      if InR .i64 ((↑k8 : Int) + 1) then
        some (Sum.inl (k8 + 1))
      else none
  else
    some (Sum.inr (Sum.inr (())))
def discount_CheckAll_L31_H (l_0 : (List Tapi_Discount)) (k11 : Nat) (x25 : Tapi_Discount) : Nat → St := fun (s : Nat) => S 19 [(0, .lst (fl Tapi_Discount.enc (List.take k11 l_0)) ((List.take k11 l_0).length)), (1, .fn (.func 36) [] [.ptr 0 0]), (7, .int .i64 (↑((List.take k11 l_0).length) : Int)), (8, .int .i64 (↑s : Int))] [(bT (Tapi_Discount.enc x25) 41)]
theorem discount_CheckAll_L31_0 (l_0 : (List Tapi_Discount)) (k11 : Nat) (x25 : Tapi_Discount) (k8 : Nat) (c37 : (↑k8 : Int) < (↑((List.take k11 l_0).length) : Int)) (x38 : Tapi_Discount) (h39 : (List.take k11 l_0)[k8]? = some x38) (c40 : x38.Name = x25.Name) : Does Try.prog G0 1 (bodyAt Try.prog 45 [1, 0, 1, 0, 0]) (discount_CheckAll_L31_H l_0 k11 x25 k8) .ret (S 19 [(4, .int .i64 (↑k8 : Int))] [(bT (Tapi_Discount.enc x25) 41)]) :=
  Does.of_viewM 1 400 ((.op none .a) :: (.br true) :: (cs 5 ((.op none (.i k8)) :: (.op none (.v [.str x38.Name, .int .i64 x38.Kind, .int .i64 x38.Amount, .str x38.Group, .str x38.System, .int .i64 x38.Class, .int .i64 x38.Window.Days, .int .i64 x38.Window.From, .int .i64 x38.Window.To, .int .i64 x38.Least])) :: (cs 7 ((.op none .a) :: (.op none .c) :: (.br true) :: (cs 2 [])))))) [0] (ps := [((decide ((↑k8 : Int) < (↑((List.take k11 l_0).length) : Int))) = true), ((↑k8 : Int) = ((k8 : Nat) : Int) ∧ k8 < ((List.take k11 l_0).length)), ((fl Tapi_Discount.enc (List.take k11 l_0)) ≠ []), (sub (fl Tapi_Discount.enc (List.take k11 l_0)) (k8 * 10) 10 = [.str x38.Name, .int .i64 x38.Kind, .int .i64 x38.Amount, .str x38.Group, .str x38.System, .int .i64 x38.Class, .int .i64 x38.Window.Days, .int .i64 x38.Window.From, .int .i64 x38.Window.To, .int .i64 x38.Least]), ((x38.Name == x25.Name) = true)]) (by kernel_rfl) (by kernel_rfl) ⟨(decide_eq_true c37), ⟨rfl, get_lt h39⟩, (fl_ne (f := Tapi_Discount.enc) (z := 9) (fun _ => rfl) h39), (fl_sub0 (f := Tapi_Discount.enc) (z := 10) (j := k8) (fun _ => rfl) h39 rfl), ok1 (beq_t c40)⟩
theorem discount_CheckAll_L31_1 (l_0 : (List Tapi_Discount)) (k11 : Nat) (x25 : Tapi_Discount) (k8 : Nat) (c37 : (↑k8 : Int) < (↑((List.take k11 l_0).length) : Int)) (x38 : Tapi_Discount) (h39 : (List.take k11 l_0)[k8]? = some x38) (c40 : ¬ (x38.Name = x25.Name)) (h41 : InR .i64 ((↑k8 : Int) + 1)) : Does Try.prog G0 1 (bodyAt Try.prog 45 [1, 0, 1, 0, 0]) (discount_CheckAll_L31_H l_0 k11 x25 k8) .normal (S 19 [(0, .lst (fl Tapi_Discount.enc (List.take k11 l_0)) ((List.take k11 l_0).length)), (1, .fn (.func 36) [] [.ptr 0 0]), (7, .int .i64 (↑((List.take k11 l_0).length) : Int)), (8, .int .i64 ((↑k8 : Int) + 1))] [(bT (Tapi_Discount.enc x25) 41)]) :=
  Does.of_viewM 1 400 ((.op none .a) :: (.br true) :: (cs 5 ((.op none (.i k8)) :: (.op none (.v [.str x38.Name, .int .i64 x38.Kind, .int .i64 x38.Amount, .str x38.Group, .str x38.System, .int .i64 x38.Class, .int .i64 x38.Window.Days, .int .i64 x38.Window.From, .int .i64 x38.Window.To, .int .i64 x38.Least])) :: (cs 7 [.op none .a, .op none .c, .br false, .op none .w, .op none .c])))) [0] (ps := [((decide ((↑k8 : Int) < (↑((List.take k11 l_0).length) : Int))) = true), ((↑k8 : Int) = ((k8 : Nat) : Int) ∧ k8 < ((List.take k11 l_0).length)), ((fl Tapi_Discount.enc (List.take k11 l_0)) ≠ []), (sub (fl Tapi_Discount.enc (List.take k11 l_0)) (k8 * 10) 10 = [.str x38.Name, .int .i64 x38.Kind, .int .i64 x38.Amount, .str x38.Group, .str x38.System, .int .i64 x38.Class, .int .i64 x38.Window.Days, .int .i64 x38.Window.From, .int .i64 x38.Window.To, .int .i64 x38.Least]), ((x38.Name == x25.Name) = false), (IntKind.min .i64 ≤ ((↑k8 : Int) + 1) ∧ ((↑k8 : Int) + 1) ≤ IntKind.max .i64)]) (by kernel_rfl) (by kernel_rfl) ⟨(decide_eq_true c37), ⟨rfl, get_lt h39⟩, (fl_ne (f := Tapi_Discount.enc) (z := 9) (fun _ => rfl) h39), (fl_sub0 (f := Tapi_Discount.enc) (z := 10) (j := k8) (fun _ => rfl) h39 rfl), (beq_f c40), ok1 h41⟩
theorem discount_CheckAll_L31_2 (l_0 : (List Tapi_Discount)) (k11 : Nat) (x25 : Tapi_Discount) (k8 : Nat) (c37 : ¬ ((↑k8 : Int) < (↑((List.take k11 l_0).length) : Int))) : Does Try.prog G0 1 (bodyAt Try.prog 45 [1, 0, 1, 0, 0]) (discount_CheckAll_L31_H l_0 k11 x25 k8) (.exit 0) (S 19 [] [(bT (Tapi_Discount.enc x25) 41)]) :=
  Does.of_viewM 1 400 [.op none .a, .br false] [0] (ps := [((decide ((↑k8 : Int) < (↑((List.take k11 l_0).length) : Int))) = false)]) (by kernel_rfl) (by kernel_rfl) (ok1 (decide_eq_false c37))
def discount_CheckAll_L31_X (l_0 : (List Tapi_Discount)) (k11 : Nat) (x25 : Tapi_Discount) : (Int ⊕ Unit) → AEx := fun q => match q with | Sum.inl o => .ret | Sum.inr (o) => (.exit 0)
def discount_CheckAll_L31_E (l_0 : (List Tapi_Discount)) (k11 : Nat) (x25 : Tapi_Discount) : (Int ⊕ Unit) → St := fun q => match q with | Sum.inl o => S 19 [(4, .int .i64 o)] [(bT (Tapi_Discount.enc x25) 41)] | Sum.inr (o) => S 19 [] [(bT (Tapi_Discount.enc x25) 41)]
theorem discount_CheckAll_L31_does (l_0 : (List Tapi_Discount)) (k11 : Nat) (x25 : Tapi_Discount) {s : Nat} {r : Int ⊕ Unit} (h : lp (discount_CheckAll_L31_step l_0 k11 x25) s = some r) : Does Try.prog G0 1 (.loop (bodyAt Try.prog 45 [1, 0, 1, 0, 0])) (discount_CheckAll_L31_H l_0 k11 x25 s) (discount_CheckAll_L31_X l_0 k11 x25 r) (discount_CheckAll_L31_E l_0 k11 x25 r) := by
  refine Does.lp (H := discount_CheckAll_L31_H l_0 k11 x25) (X := discount_CheckAll_L31_X l_0 k11 x25) (E := discount_CheckAll_L31_E l_0 k11 x25) (fun s s2 h => ?_) (fun s r h => ?_) h
  · revert h; revert s; intro k8 h
    unfold discount_CheckAll_L31_step at h
    try dsimp only at h
    rcases ite_some h with ⟨c37, h⟩ | ⟨c37, h⟩
    · obtain ⟨x38, h39, h⟩ := bind_some h
      rcases ite_some h with ⟨c40, h⟩ | ⟨c40, h⟩
      · simp at h
      · obtain ⟨h41, h⟩ := guard_some h
        simp only [Option.some.injEq, Sum.inl.injEq] at h
        subst h
        have hq := discount_CheckAll_L31_1 l_0 k11 x25 k8 c37 x38 h39 c40 h41
        first | exact hq | exact Eq.mp (by simp only [discount_CheckAll_L31_H, List.length_set] <;> rfl) hq
    · simp at h
  · revert h; revert s; intro k8 h
    unfold discount_CheckAll_L31_step at h
    try dsimp only at h
    rcases ite_some h with ⟨c37, h⟩ | ⟨c37, h⟩
    · obtain ⟨x38, h39, h⟩ := bind_some h
      rcases ite_some h with ⟨c40, h⟩ | ⟨c40, h⟩
      · simp only [Option.some.injEq, Sum.inr.injEq] at h
        subst h
        exact ⟨discount_CheckAll_L31_0 l_0 k11 x25 k8 c37 x38 h39 c40, by intro q; cases q⟩
      · obtain ⟨h41, h⟩ := guard_some h
        simp at h
    · simp only [Option.some.injEq, Sum.inr.injEq] at h
      subst h
      exact ⟨discount_CheckAll_L31_2 l_0 k11 x25 k8 c37, by intro q; cases q⟩
noncomputable def discount_CheckAll_L2_step (l_0 : (List Tapi_Discount)) : Nat → Option (Nat ⊕ (Int ⊕ Unit)) := fun k11 =>
  if (↑k11 : Int) < (↑l_0.length : Int) then
    (l_0[k11]?).bind fun x25 =>
    (discount_Check x25).bind fun r27 =>
    if r27 = (0 : Int) then
      if k11 ≤ l_0.length then
        (lp (discount_CheckAll_L31_step l_0 k11 x25) (0 : Nat)).bind fun qq => match qq with
        | Sum.inl o31 =>
          if o31 ≥ (0 : Int) then
            some (Sum.inr (Sum.inl 9))
          else
            if InR .i64 ((↑k11 : Int) + 1) then
              some (Sum.inl (k11 + 1))
            else none
        | Sum.inr (o31) =>
          if InR .i64 ((↑k11 : Int) + 1) then
            some (Sum.inl (k11 + 1))
          else none
      else none
    else
      some (Sum.inr (Sum.inl r27))
  else
    some (Sum.inr (Sum.inr (())))
def discount_CheckAll_L2_H (l_0 : (List Tapi_Discount)) : Nat → St := fun (s : Nat) => S 27 [(0, .lst (fl Tapi_Discount.enc l_0) l_0.length), (9, .lst (fl Tapi_Discount.enc l_0) l_0.length), (10, .int .i64 (↑l_0.length : Int)), (11, .int .i64 (↑s : Int))] []
theorem discount_CheckAll_L2_0 (l_0 : (List Tapi_Discount)) (k11 : Nat) (c24 : (↑k11 : Int) < (↑l_0.length : Int)) (x25 : Tapi_Discount) (h26 : l_0[k11]? = some x25) (r27 : Int) (h28 : discount_Check x25 = some r27) (c29 : r27 = (0 : Int)) (h30 : k11 ≤ l_0.length) (o31 : Int) (hl31 : lp (discount_CheckAll_L31_step l_0 k11 x25) (0 : Nat) = some (Sum.inl o31)) (c42 : o31 ≥ (0 : Int)) : Does Try.prog G0 0 (bodyAt Try.prog 19 [1, 1, 0, 1, 0, 0]) (discount_CheckAll_L2_H l_0 k11) .ret (S 27 [(2, .int .i64 9)] []) :=
  Does.of_viewM 0 400 ((.op none .a) :: (.br true) :: (.op none .c) :: (.op none (.i k11)) :: (.op none (.v [.str x25.Name, .int .i64 x25.Kind, .int .i64 x25.Amount, .str x25.Group, .str x25.System, .int .i64 x25.Class, .int .i64 x25.Window.Days, .int .i64 x25.Window.From, .int .i64 x25.Window.To, .int .i64 x25.Least])) :: (cs 4 ((.ret none [.agg (Tapi_Discount.enc x25)] (.int .i64 r27) []) :: (cs 2 ((.op none .a) :: (.br false) :: (cs 2 ((.op none (.s 0 k11)) :: (.tr (.eqt (.t 23) (.lst (fl Tapi_Discount.enc (List.take k11 l_0)) ((List.take k11 l_0).length)))) :: (cs 10 [.fcut 1 .ret [(4, .int .i64 o31)] [(bT (Tapi_Discount.enc x25) 41)] [0] [(0, .lst (fl Tapi_Discount.enc (List.take k11 l_0)) ((List.take k11 l_0).length)), (1, .fn (.func 36) [] [.ptr 0 0]), (7, .int .i64 (↑((List.take k11 l_0).length) : Int)), (8, .int .i64 (↑(0 : Nat) : Int))] [(bT (Tapi_Discount.enc x25) 41)], .op none .a, .op none .c, .br true, .op none .c])))))))) [] (ps := [((decide ((↑k11 : Int) < (↑l_0.length : Int))) = true), ((↑k11 : Int) = ((k11 : Nat) : Int) ∧ k11 < l_0.length), ((fl Tapi_Discount.enc l_0) ≠ []), (sub (fl Tapi_Discount.enc l_0) (k11 * 10) 10 = [.str x25.Name, .int .i64 x25.Kind, .int .i64 x25.Amount, .str x25.Group, .str x25.System, .int .i64 x25.Class, .int .i64 x25.Window.Days, .int .i64 x25.Window.From, .int .i64 x25.Window.To, .int .i64 x25.Least]), ((.agg (Tapi_Discount.enc x25) : AV) = .agg (Tapi_Discount.enc x25)), (Ret Try.prog G0 18 [.agg (Tapi_Discount.enc x25)] (.int .i64 r27) []), ((!(r27 == (0 : Int))) = false), ((↑k11 : Int) = ((k11 : Nat) : Int)), (0 ≤ k11 ∧ k11 ≤ l_0.length), ((.lst (List.take (k11 * 10) (fl Tapi_Discount.enc l_0)) k11 : AV) = .lst (fl Tapi_Discount.enc (List.take k11 l_0)) ((List.take k11 l_0).length)), ((.lst (fl Tapi_Discount.enc (List.take k11 l_0)) ((List.take k11 l_0).length) : AV) = .lst (fl Tapi_Discount.enc (List.take k11 l_0)) ((List.take k11 l_0).length)), ((.fn (.func 36) [] [.ptr 0 0] : AV) = .fn (.func 36) [] [.ptr 0 0]), ((.int .i64 (↑((List.take k11 l_0).length) : Int) : AV) = .int .i64 (↑((List.take k11 l_0).length) : Int)), ((.int .i64 0 : AV) = .int .i64 (↑(0 : Nat) : Int)), (((bT (Tapi_Discount.enc x25) 41) : Blk) = renB [0] (bT (Tapi_Discount.enc x25) 41)), (Does Try.prog G0 1 (.loop (bodyAt Try.prog 45 [1, 0, 1, 0, 0])) (S 19 [(0, .lst (fl Tapi_Discount.enc (List.take k11 l_0)) ((List.take k11 l_0).length)), (1, .fn (.func 36) [] [.ptr 0 0]), (7, .int .i64 (↑((List.take k11 l_0).length) : Int)), (8, .int .i64 (↑(0 : Nat) : Int))] [(bT (Tapi_Discount.enc x25) 41)]) .ret (S 19 [(4, .int .i64 o31)] [(bT (Tapi_Discount.enc x25) 41)])), ((decide (o31 ≥ (0 : Int))) = true)]) (by kernel_rfl) (by kernel_rfl) ⟨(decide_eq_true c24), ⟨rfl, get_lt h26⟩, (fl_ne (f := Tapi_Discount.enc) (z := 9) (fun _ => rfl) h26), (fl_sub0 (f := Tapi_Discount.enc) (z := 10) (j := k11) (fun _ => rfl) h26 rfl), rfl, (discount_Check_ret x25 r27 h28), (not_f (beq_t c29)), rfl, ⟨Nat.zero_le _, h30⟩, (lst_eq (fl_take (f := Tapi_Discount.enc) (z := 10) (fun _ => rfl) _ _) (by rw [List.length_take]; omega)), rfl, rfl, rfl, rfl, rfl, (discount_CheckAll_L31_does l_0 k11 x25 (s := (0 : Nat)) (r := Sum.inl o31) hl31), ok1 (decide_eq_true c42)⟩
theorem discount_CheckAll_L2_1 (l_0 : (List Tapi_Discount)) (k11 : Nat) (c24 : (↑k11 : Int) < (↑l_0.length : Int)) (x25 : Tapi_Discount) (h26 : l_0[k11]? = some x25) (r27 : Int) (h28 : discount_Check x25 = some r27) (c29 : r27 = (0 : Int)) (h30 : k11 ≤ l_0.length) (o31 : Int) (hl31 : lp (discount_CheckAll_L31_step l_0 k11 x25) (0 : Nat) = some (Sum.inl o31)) (c42 : ¬ (o31 ≥ (0 : Int))) (h43 : InR .i64 ((↑k11 : Int) + 1)) : Does Try.prog G0 0 (bodyAt Try.prog 19 [1, 1, 0, 1, 0, 0]) (discount_CheckAll_L2_H l_0 k11) .normal (S 27 [(0, .lst (fl Tapi_Discount.enc l_0) l_0.length), (9, .lst (fl Tapi_Discount.enc l_0) l_0.length), (10, .int .i64 (↑l_0.length : Int)), (11, .int .i64 ((↑k11 : Int) + 1))] []) :=
  Does.of_viewM 0 400 ((.op none .a) :: (.br true) :: (.op none .c) :: (.op none (.i k11)) :: (.op none (.v [.str x25.Name, .int .i64 x25.Kind, .int .i64 x25.Amount, .str x25.Group, .str x25.System, .int .i64 x25.Class, .int .i64 x25.Window.Days, .int .i64 x25.Window.From, .int .i64 x25.Window.To, .int .i64 x25.Least])) :: (cs 4 ((.ret none [.agg (Tapi_Discount.enc x25)] (.int .i64 r27) []) :: (cs 2 ((.op none .a) :: (.br false) :: (cs 2 ((.op none (.s 0 k11)) :: (.tr (.eqt (.t 23) (.lst (fl Tapi_Discount.enc (List.take k11 l_0)) ((List.take k11 l_0).length)))) :: (cs 10 [.fcut 1 .ret [(4, .int .i64 o31)] [(bT (Tapi_Discount.enc x25) 41)] [0] [(0, .lst (fl Tapi_Discount.enc (List.take k11 l_0)) ((List.take k11 l_0).length)), (1, .fn (.func 36) [] [.ptr 0 0]), (7, .int .i64 (↑((List.take k11 l_0).length) : Int)), (8, .int .i64 (↑(0 : Nat) : Int))] [(bT (Tapi_Discount.enc x25) 41)], .op none .a, .op none .c, .br false, .op none .w, .op none .c])))))))) [] (ps := [((decide ((↑k11 : Int) < (↑l_0.length : Int))) = true), ((↑k11 : Int) = ((k11 : Nat) : Int) ∧ k11 < l_0.length), ((fl Tapi_Discount.enc l_0) ≠ []), (sub (fl Tapi_Discount.enc l_0) (k11 * 10) 10 = [.str x25.Name, .int .i64 x25.Kind, .int .i64 x25.Amount, .str x25.Group, .str x25.System, .int .i64 x25.Class, .int .i64 x25.Window.Days, .int .i64 x25.Window.From, .int .i64 x25.Window.To, .int .i64 x25.Least]), ((.agg (Tapi_Discount.enc x25) : AV) = .agg (Tapi_Discount.enc x25)), (Ret Try.prog G0 18 [.agg (Tapi_Discount.enc x25)] (.int .i64 r27) []), ((!(r27 == (0 : Int))) = false), ((↑k11 : Int) = ((k11 : Nat) : Int)), (0 ≤ k11 ∧ k11 ≤ l_0.length), ((.lst (List.take (k11 * 10) (fl Tapi_Discount.enc l_0)) k11 : AV) = .lst (fl Tapi_Discount.enc (List.take k11 l_0)) ((List.take k11 l_0).length)), ((.lst (fl Tapi_Discount.enc (List.take k11 l_0)) ((List.take k11 l_0).length) : AV) = .lst (fl Tapi_Discount.enc (List.take k11 l_0)) ((List.take k11 l_0).length)), ((.fn (.func 36) [] [.ptr 0 0] : AV) = .fn (.func 36) [] [.ptr 0 0]), ((.int .i64 (↑((List.take k11 l_0).length) : Int) : AV) = .int .i64 (↑((List.take k11 l_0).length) : Int)), ((.int .i64 0 : AV) = .int .i64 (↑(0 : Nat) : Int)), (((bT (Tapi_Discount.enc x25) 41) : Blk) = renB [0] (bT (Tapi_Discount.enc x25) 41)), (Does Try.prog G0 1 (.loop (bodyAt Try.prog 45 [1, 0, 1, 0, 0])) (S 19 [(0, .lst (fl Tapi_Discount.enc (List.take k11 l_0)) ((List.take k11 l_0).length)), (1, .fn (.func 36) [] [.ptr 0 0]), (7, .int .i64 (↑((List.take k11 l_0).length) : Int)), (8, .int .i64 (↑(0 : Nat) : Int))] [(bT (Tapi_Discount.enc x25) 41)]) .ret (S 19 [(4, .int .i64 o31)] [(bT (Tapi_Discount.enc x25) 41)])), ((decide (o31 ≥ (0 : Int))) = false), (IntKind.min .i64 ≤ ((↑k11 : Int) + 1) ∧ ((↑k11 : Int) + 1) ≤ IntKind.max .i64)]) (by kernel_rfl) (by kernel_rfl) ⟨(decide_eq_true c24), ⟨rfl, get_lt h26⟩, (fl_ne (f := Tapi_Discount.enc) (z := 9) (fun _ => rfl) h26), (fl_sub0 (f := Tapi_Discount.enc) (z := 10) (j := k11) (fun _ => rfl) h26 rfl), rfl, (discount_Check_ret x25 r27 h28), (not_f (beq_t c29)), rfl, ⟨Nat.zero_le _, h30⟩, (lst_eq (fl_take (f := Tapi_Discount.enc) (z := 10) (fun _ => rfl) _ _) (by rw [List.length_take]; omega)), rfl, rfl, rfl, rfl, rfl, (discount_CheckAll_L31_does l_0 k11 x25 (s := (0 : Nat)) (r := Sum.inl o31) hl31), (decide_eq_false c42), ok1 h43⟩
theorem discount_CheckAll_L2_2 (l_0 : (List Tapi_Discount)) (k11 : Nat) (c24 : (↑k11 : Int) < (↑l_0.length : Int)) (x25 : Tapi_Discount) (h26 : l_0[k11]? = some x25) (r27 : Int) (h28 : discount_Check x25 = some r27) (c29 : r27 = (0 : Int)) (h30 : k11 ≤ l_0.length) (o31 : Unit) (hl31 : lp (discount_CheckAll_L31_step l_0 k11 x25) (0 : Nat) = some (Sum.inr (o31))) (h44 : InR .i64 ((↑k11 : Int) + 1)) : Does Try.prog G0 0 (bodyAt Try.prog 19 [1, 1, 0, 1, 0, 0]) (discount_CheckAll_L2_H l_0 k11) .normal (S 27 [(0, .lst (fl Tapi_Discount.enc l_0) l_0.length), (9, .lst (fl Tapi_Discount.enc l_0) l_0.length), (10, .int .i64 (↑l_0.length : Int)), (11, .int .i64 ((↑k11 : Int) + 1))] []) :=
  Does.of_viewM 0 400 ((.op none .a) :: (.br true) :: (.op none .c) :: (.op none (.i k11)) :: (.op none (.v [.str x25.Name, .int .i64 x25.Kind, .int .i64 x25.Amount, .str x25.Group, .str x25.System, .int .i64 x25.Class, .int .i64 x25.Window.Days, .int .i64 x25.Window.From, .int .i64 x25.Window.To, .int .i64 x25.Least])) :: (cs 4 ((.ret none [.agg (Tapi_Discount.enc x25)] (.int .i64 r27) []) :: (cs 2 ((.op none .a) :: (.br false) :: (cs 2 ((.op none (.s 0 k11)) :: (.tr (.eqt (.t 23) (.lst (fl Tapi_Discount.enc (List.take k11 l_0)) ((List.take k11 l_0).length)))) :: (cs 10 ((.fcut 1 (.exit 0) [] [(bT (Tapi_Discount.enc x25) 41)] [0] [(0, .lst (fl Tapi_Discount.enc (List.take k11 l_0)) ((List.take k11 l_0).length)), (1, .fn (.func 36) [] [.ptr 0 0]), (7, .int .i64 (↑((List.take k11 l_0).length) : Int)), (8, .int .i64 (↑(0 : Nat) : Int))] [(bT (Tapi_Discount.enc x25) 41)]) :: (cs 3 [.br false, .op none .w, .op none .c])))))))))) [] (ps := [((decide ((↑k11 : Int) < (↑l_0.length : Int))) = true), ((↑k11 : Int) = ((k11 : Nat) : Int) ∧ k11 < l_0.length), ((fl Tapi_Discount.enc l_0) ≠ []), (sub (fl Tapi_Discount.enc l_0) (k11 * 10) 10 = [.str x25.Name, .int .i64 x25.Kind, .int .i64 x25.Amount, .str x25.Group, .str x25.System, .int .i64 x25.Class, .int .i64 x25.Window.Days, .int .i64 x25.Window.From, .int .i64 x25.Window.To, .int .i64 x25.Least]), ((.agg (Tapi_Discount.enc x25) : AV) = .agg (Tapi_Discount.enc x25)), (Ret Try.prog G0 18 [.agg (Tapi_Discount.enc x25)] (.int .i64 r27) []), ((!(r27 == (0 : Int))) = false), ((↑k11 : Int) = ((k11 : Nat) : Int)), (0 ≤ k11 ∧ k11 ≤ l_0.length), ((.lst (List.take (k11 * 10) (fl Tapi_Discount.enc l_0)) k11 : AV) = .lst (fl Tapi_Discount.enc (List.take k11 l_0)) ((List.take k11 l_0).length)), ((.lst (fl Tapi_Discount.enc (List.take k11 l_0)) ((List.take k11 l_0).length) : AV) = .lst (fl Tapi_Discount.enc (List.take k11 l_0)) ((List.take k11 l_0).length)), ((.fn (.func 36) [] [.ptr 0 0] : AV) = .fn (.func 36) [] [.ptr 0 0]), ((.int .i64 (↑((List.take k11 l_0).length) : Int) : AV) = .int .i64 (↑((List.take k11 l_0).length) : Int)), ((.int .i64 0 : AV) = .int .i64 (↑(0 : Nat) : Int)), (((bT (Tapi_Discount.enc x25) 41) : Blk) = renB [0] (bT (Tapi_Discount.enc x25) 41)), (Does Try.prog G0 1 (.loop (bodyAt Try.prog 45 [1, 0, 1, 0, 0])) (S 19 [(0, .lst (fl Tapi_Discount.enc (List.take k11 l_0)) ((List.take k11 l_0).length)), (1, .fn (.func 36) [] [.ptr 0 0]), (7, .int .i64 (↑((List.take k11 l_0).length) : Int)), (8, .int .i64 (↑(0 : Nat) : Int))] [(bT (Tapi_Discount.enc x25) 41)]) (.exit 0) (S 19 [] [(bT (Tapi_Discount.enc x25) 41)])), (false = false), (IntKind.min .i64 ≤ ((↑k11 : Int) + 1) ∧ ((↑k11 : Int) + 1) ≤ IntKind.max .i64)]) (by kernel_rfl) (by kernel_rfl) ⟨(decide_eq_true c24), ⟨rfl, get_lt h26⟩, (fl_ne (f := Tapi_Discount.enc) (z := 9) (fun _ => rfl) h26), (fl_sub0 (f := Tapi_Discount.enc) (z := 10) (j := k11) (fun _ => rfl) h26 rfl), rfl, (discount_Check_ret x25 r27 h28), (not_f (beq_t c29)), rfl, ⟨Nat.zero_le _, h30⟩, (lst_eq (fl_take (f := Tapi_Discount.enc) (z := 10) (fun _ => rfl) _ _) (by rw [List.length_take]; omega)), rfl, rfl, rfl, rfl, rfl, (discount_CheckAll_L31_does l_0 k11 x25 (s := (0 : Nat)) (r := Sum.inr (o31)) hl31), rfl, ok1 h44⟩
theorem discount_CheckAll_L2_3 (l_0 : (List Tapi_Discount)) (k11 : Nat) (c24 : (↑k11 : Int) < (↑l_0.length : Int)) (x25 : Tapi_Discount) (h26 : l_0[k11]? = some x25) (r27 : Int) (h28 : discount_Check x25 = some r27) (c29 : ¬ (r27 = (0 : Int))) : Does Try.prog G0 0 (bodyAt Try.prog 19 [1, 1, 0, 1, 0, 0]) (discount_CheckAll_L2_H l_0 k11) .ret (S 27 [(2, .int .i64 r27)] []) :=
  Does.of_viewM 0 400 ((.op none .a) :: (.br true) :: (.op none .c) :: (.op none (.i k11)) :: (.op none (.v [.str x25.Name, .int .i64 x25.Kind, .int .i64 x25.Amount, .str x25.Group, .str x25.System, .int .i64 x25.Class, .int .i64 x25.Window.Days, .int .i64 x25.Window.From, .int .i64 x25.Window.To, .int .i64 x25.Least])) :: (cs 4 ((.ret none [.agg (Tapi_Discount.enc x25)] (.int .i64 r27) []) :: (cs 2 ((.op none .a) :: (.br true) :: (cs 2 [])))))) [] (ps := [((decide ((↑k11 : Int) < (↑l_0.length : Int))) = true), ((↑k11 : Int) = ((k11 : Nat) : Int) ∧ k11 < l_0.length), ((fl Tapi_Discount.enc l_0) ≠ []), (sub (fl Tapi_Discount.enc l_0) (k11 * 10) 10 = [.str x25.Name, .int .i64 x25.Kind, .int .i64 x25.Amount, .str x25.Group, .str x25.System, .int .i64 x25.Class, .int .i64 x25.Window.Days, .int .i64 x25.Window.From, .int .i64 x25.Window.To, .int .i64 x25.Least]), ((.agg (Tapi_Discount.enc x25) : AV) = .agg (Tapi_Discount.enc x25)), (Ret Try.prog G0 18 [.agg (Tapi_Discount.enc x25)] (.int .i64 r27) []), ((!(r27 == (0 : Int))) = true)]) (by kernel_rfl) (by kernel_rfl) ⟨(decide_eq_true c24), ⟨rfl, get_lt h26⟩, (fl_ne (f := Tapi_Discount.enc) (z := 9) (fun _ => rfl) h26), (fl_sub0 (f := Tapi_Discount.enc) (z := 10) (j := k11) (fun _ => rfl) h26 rfl), rfl, (discount_Check_ret x25 r27 h28), ok1 (not_t (beq_f c29))⟩
theorem discount_CheckAll_L2_4 (l_0 : (List Tapi_Discount)) (k11 : Nat) (c24 : ¬ ((↑k11 : Int) < (↑l_0.length : Int))) : Does Try.prog G0 0 (bodyAt Try.prog 19 [1, 1, 0, 1, 0, 0]) (discount_CheckAll_L2_H l_0 k11) (.exit 0) (S 27 [] []) :=
  Does.of_viewM 0 400 [.op none .a, .br false] [] (ps := [((decide ((↑k11 : Int) < (↑l_0.length : Int))) = false)]) (by kernel_rfl) (by kernel_rfl) (ok1 (decide_eq_false c24))
def discount_CheckAll_L2_X (l_0 : (List Tapi_Discount)) : (Int ⊕ Unit) → AEx := fun q => match q with | Sum.inl o => .ret | Sum.inr (o) => (.exit 0)
def discount_CheckAll_L2_E (l_0 : (List Tapi_Discount)) : (Int ⊕ Unit) → St := fun q => match q with | Sum.inl o => S 27 [(2, .int .i64 o)] [] | Sum.inr (o) => S 27 [] []
theorem discount_CheckAll_L2_does (l_0 : (List Tapi_Discount)) {s : Nat} {r : Int ⊕ Unit} (h : lp (discount_CheckAll_L2_step l_0) s = some r) : Does Try.prog G0 0 (.loop (bodyAt Try.prog 19 [1, 1, 0, 1, 0, 0])) (discount_CheckAll_L2_H l_0 s) (discount_CheckAll_L2_X l_0 r) (discount_CheckAll_L2_E l_0 r) := by
  refine Does.lp (H := discount_CheckAll_L2_H l_0) (X := discount_CheckAll_L2_X l_0) (E := discount_CheckAll_L2_E l_0) (fun s s2 h => ?_) (fun s r h => ?_) h
  · revert h; revert s; intro k11 h
    unfold discount_CheckAll_L2_step at h
    try dsimp only at h
    rcases ite_some h with ⟨c24, h⟩ | ⟨c24, h⟩
    · obtain ⟨x25, h26, h⟩ := bind_some h
      obtain ⟨r27, h28, h⟩ := bind_some h
      rcases ite_some h with ⟨c29, h⟩ | ⟨c29, h⟩
      · obtain ⟨h30, h⟩ := guard_some h
        obtain ⟨qq, hl31, h⟩ := bind_some h
        rcases qq with o31 | o31
        · dsimp only at h
          rcases ite_some h with ⟨c42, h⟩ | ⟨c42, h⟩
          · simp at h
          · obtain ⟨h43, h⟩ := guard_some h
            simp only [Option.some.injEq, Sum.inl.injEq] at h
            subst h
            have hq := discount_CheckAll_L2_1 l_0 k11 c24 x25 h26 r27 h28 c29 h30 o31 hl31 c42 h43
            first | exact hq | exact Eq.mp (by simp only [discount_CheckAll_L2_H, List.length_set] <;> rfl) hq
        · dsimp only at h
          obtain ⟨h44, h⟩ := guard_some h
          simp only [Option.some.injEq, Sum.inl.injEq] at h
          subst h
          have hq := discount_CheckAll_L2_2 l_0 k11 c24 x25 h26 r27 h28 c29 h30 o31 hl31 h44
          first | exact hq | exact Eq.mp (by simp only [discount_CheckAll_L2_H, List.length_set] <;> rfl) hq
      · simp at h
    · simp at h
  · revert h; revert s; intro k11 h
    unfold discount_CheckAll_L2_step at h
    try dsimp only at h
    rcases ite_some h with ⟨c24, h⟩ | ⟨c24, h⟩
    · obtain ⟨x25, h26, h⟩ := bind_some h
      obtain ⟨r27, h28, h⟩ := bind_some h
      rcases ite_some h with ⟨c29, h⟩ | ⟨c29, h⟩
      · obtain ⟨h30, h⟩ := guard_some h
        obtain ⟨qq, hl31, h⟩ := bind_some h
        rcases qq with o31 | o31
        · dsimp only at h
          rcases ite_some h with ⟨c42, h⟩ | ⟨c42, h⟩
          · simp only [Option.some.injEq, Sum.inr.injEq] at h
            subst h
            exact ⟨discount_CheckAll_L2_0 l_0 k11 c24 x25 h26 r27 h28 c29 h30 o31 hl31 c42, by intro q; cases q⟩
          · obtain ⟨h43, h⟩ := guard_some h
            simp at h
        · dsimp only at h
          obtain ⟨h44, h⟩ := guard_some h
          simp at h
      · simp only [Option.some.injEq, Sum.inr.injEq] at h
        subst h
        exact ⟨discount_CheckAll_L2_3 l_0 k11 c24 x25 h26 r27 h28 c29, by intro q; cases q⟩
    · simp only [Option.some.injEq, Sum.inr.injEq] at h
      subst h
      exact ⟨discount_CheckAll_L2_4 l_0 k11 c24, by intro q; cases q⟩
noncomputable def discount_CheckAll (l_0 : (List Tapi_Discount)) : Option Int :=
  if (↑l_0.length : Int) > (12 : Int) then
    some 3
  else
    (lp (discount_CheckAll_L2_step l_0) (0 : Nat)).bind fun qq => match qq with
    | Sum.inl o2 =>
      some o2
    | Sum.inr (o2) =>
      some 0
def discount_CheckAll_h1  : List CH := (cs 3 [.op none .a])
def discount_CheckAll_h2  : List CH := ((.br false) :: (cs 3 []))
def discount_CheckAll_p3 (l_0 : (List Tapi_Discount)) : List Prop := [((decide ((↑l_0.length : Int) > (12 : Int))) = false), ((.lst (fl Tapi_Discount.enc l_0) l_0.length : AV) = .lst (fl Tapi_Discount.enc l_0) l_0.length), ((.lst (fl Tapi_Discount.enc l_0) l_0.length : AV) = .lst (fl Tapi_Discount.enc l_0) l_0.length), ((.int .i64 (↑l_0.length : Int) : AV) = .int .i64 (↑l_0.length : Int)), ((.int .i64 0 : AV) = .int .i64 (↑(0 : Nat) : Int))]
theorem discount_CheckAll_p3q (l_0 : (List Tapi_Discount)) (c1 : ¬ ((↑l_0.length : Int) > (12 : Int))) : allOk (discount_CheckAll_p3 l_0) := ⟨(decide_eq_false c1), rfl, rfl, rfl, ok1 rfl⟩
theorem discount_CheckAll_0 (l_0 : (List Tapi_Discount)) (c1 : (↑l_0.length : Int) > (12 : Int)) : Ret Try.prog G0 19 [.lst (fl Tapi_Discount.enc l_0) l_0.length] (.int .i64 3) [] :=
  Ret.of_view 400 ((discount_CheckAll_h1) ++ [.br true, .op none .c]) [] (ps := [((decide ((↑l_0.length : Int) > (12 : Int))) = true)]) (by kernel_rfl) (by kernel_rfl) (ok1 (decide_eq_true c1))
theorem discount_CheckAll_1 (l_0 : (List Tapi_Discount)) (c1 : ¬ ((↑l_0.length : Int) > (12 : Int))) (o2 : Int) (hl2 : lp (discount_CheckAll_L2_step l_0) (0 : Nat) = some (Sum.inl o2)) : Ret Try.prog G0 19 [.lst (fl Tapi_Discount.enc l_0) l_0.length] (.int .i64 o2) [] :=
  Ret.of_view 400 ((discount_CheckAll_h1) ++ ((discount_CheckAll_h2) ++ [.fcut 0 .ret [(2, .int .i64 o2)] [] [] [(0, .lst (fl Tapi_Discount.enc l_0) l_0.length), (9, .lst (fl Tapi_Discount.enc l_0) l_0.length), (10, .int .i64 (↑l_0.length : Int)), (11, .int .i64 (↑(0 : Nat) : Int))] []])) [] (ps := ((discount_CheckAll_p3 l_0) ++ [(Does Try.prog G0 0 (.loop (bodyAt Try.prog 19 [1, 1, 0, 1, 0, 0])) (S 27 [(0, .lst (fl Tapi_Discount.enc l_0) l_0.length), (9, .lst (fl Tapi_Discount.enc l_0) l_0.length), (10, .int .i64 (↑l_0.length : Int)), (11, .int .i64 (↑(0 : Nat) : Int))] []) .ret (S 27 [(2, .int .i64 o2)] []))])) (by kernel_rfl) (by kernel_rfl) (allOk_append.2 ⟨(discount_CheckAll_p3q l_0 c1), (ok1 (discount_CheckAll_L2_does l_0 (s := (0 : Nat)) (r := Sum.inl o2) hl2))⟩)
theorem discount_CheckAll_2 (l_0 : (List Tapi_Discount)) (c1 : ¬ ((↑l_0.length : Int) > (12 : Int))) (o2 : Unit) (hl2 : lp (discount_CheckAll_L2_step l_0) (0 : Nat) = some (Sum.inr (o2))) : Ret Try.prog G0 19 [.lst (fl Tapi_Discount.enc l_0) l_0.length] (.int .i64 0) [] :=
  Ret.of_view 400 ((discount_CheckAll_h1) ++ ((discount_CheckAll_h2) ++ [.fcut 0 (.exit 0) [] [] [] [(0, .lst (fl Tapi_Discount.enc l_0) l_0.length), (9, .lst (fl Tapi_Discount.enc l_0) l_0.length), (10, .int .i64 (↑l_0.length : Int)), (11, .int .i64 (↑(0 : Nat) : Int))] [], .op none .c])) [] (ps := ((discount_CheckAll_p3 l_0) ++ [(Does Try.prog G0 0 (.loop (bodyAt Try.prog 19 [1, 1, 0, 1, 0, 0])) (S 27 [(0, .lst (fl Tapi_Discount.enc l_0) l_0.length), (9, .lst (fl Tapi_Discount.enc l_0) l_0.length), (10, .int .i64 (↑l_0.length : Int)), (11, .int .i64 (↑(0 : Nat) : Int))] []) (.exit 0) (S 27 [] []))])) (by kernel_rfl) (by kernel_rfl) (allOk_append.2 ⟨(discount_CheckAll_p3q l_0 c1), (ok1 (discount_CheckAll_L2_does l_0 (s := (0 : Nat)) (r := Sum.inr (o2)) hl2))⟩)
theorem discount_CheckAll_ret (l_0 : (List Tapi_Discount)) (r : Int) (h : discount_CheckAll l_0 = some r) : Ret Try.prog G0 19 [.lst (fl Tapi_Discount.enc l_0) l_0.length] (.int .i64 r) [] := by
  unfold discount_CheckAll at h
  rcases ite_some h with ⟨c1, h⟩ | ⟨c1, h⟩
  · simp only [Option.some.injEq] at h
    subst h
    exact discount_CheckAll_0 l_0 c1
  · obtain ⟨qq, hl2, h⟩ := bind_some h
    rcases qq with o2 | o2
    · dsimp only at h
      simp only [Option.some.injEq] at h
      subst h
      exact discount_CheckAll_1 l_0 c1 o2 hl2
    · dsimp only at h
      simp only [Option.some.injEq] at h
      subst h
      exact discount_CheckAll_2 l_0 c1 o2 hl2
noncomputable def tollwayref24_CheckAll_L31_step (l_0 : (List Tapi_Discount)) (k3 : Nat) : Nat → Option (Nat ⊕ (Unit ⊕ Unit)) := fun k5 =>
  if (↑k5 : Int) < (↑k3 : Int) then
    (l_0[k5]?).bind fun x40 =>
    (l_0[k3]?).bind fun x42 =>
    if x40.Name = x42.Name then
      some (Sum.inr (Sum.inl ()))
    else
      if InR .i64 ((↑k5 : Int) + 1) then
        some (Sum.inl (k5 + 1))
      else none
  else
    some (Sum.inr (Sum.inr (())))
def tollwayref24_CheckAll_L31_H (l_0 : (List Tapi_Discount)) (k3 : Nat) : Nat → St := fun (s : Nat) => S 39 [(0, .lst (fl Tapi_Discount.enc l_0) l_0.length), (3, .int .i64 (↑k3 : Int)), (5, .int .i64 (↑s : Int))] []
theorem tollwayref24_CheckAll_L31_0 (l_0 : (List Tapi_Discount)) (k3 : Nat) (k5 : Nat) (c39 : (↑k5 : Int) < (↑k3 : Int)) (x40 : Tapi_Discount) (h41 : l_0[k5]? = some x40) (x42 : Tapi_Discount) (h43 : l_0[k3]? = some x42) (c44 : x40.Name = x42.Name) : Does Try.prog G0 0 (bodyAt Try.prog 26 [1, 1, 0, 1, 0, 0, 1, 0, 0, 1, 1, 1, 0, 0]) (tollwayref24_CheckAll_L31_H l_0 k3 k5) .ret (S 39 [(2, .int .i64 9)] []) :=
  Does.of_viewM 0 400 (cs 2 ((.op none .a) :: (.br true) :: (cs 2 ((.op none (.i k5)) :: (.op none .c) :: (.op none (.v [.str x40.Name])) :: (cs 2 [.op none (.i k3), .op none .c, .op none (.v [.str x42.Name]), .op none .a, .br true, .op none .c]))))) [] (ps := [((decide ((↑k5 : Int) < (↑k3 : Int))) = true), ((↑k5 : Int) = ((k5 : Nat) : Int) ∧ k5 < l_0.length), ((fl Tapi_Discount.enc l_0) ≠ []), (sub (fl Tapi_Discount.enc l_0) (k5 * 10) 1 = [.str x40.Name]), ((↑k3 : Int) = ((k3 : Nat) : Int) ∧ k3 < l_0.length), ((fl Tapi_Discount.enc l_0) ≠ []), (sub (fl Tapi_Discount.enc l_0) (k3 * 10) 1 = [.str x42.Name]), ((x40.Name == x42.Name) = true)]) (by kernel_rfl) (by kernel_rfl) ⟨(decide_eq_true c39), ⟨rfl, get_lt h41⟩, (fl_ne (f := Tapi_Discount.enc) (z := 9) (fun _ => rfl) h41), (fl_sub (f := Tapi_Discount.enc) (z := 10) (j := k5) (a := 0) (n := 1) (fun _ => rfl) h41 (by decide) rfl), ⟨rfl, get_lt h43⟩, (fl_ne (f := Tapi_Discount.enc) (z := 9) (fun _ => rfl) h43), (fl_sub (f := Tapi_Discount.enc) (z := 10) (j := k3) (a := 0) (n := 1) (fun _ => rfl) h43 (by decide) rfl), ok1 (beq_t c44)⟩
theorem tollwayref24_CheckAll_L31_1 (l_0 : (List Tapi_Discount)) (k3 : Nat) (k5 : Nat) (c39 : (↑k5 : Int) < (↑k3 : Int)) (x40 : Tapi_Discount) (h41 : l_0[k5]? = some x40) (x42 : Tapi_Discount) (h43 : l_0[k3]? = some x42) (c44 : ¬ (x40.Name = x42.Name)) (h45 : InR .i64 ((↑k5 : Int) + 1)) : Does Try.prog G0 0 (bodyAt Try.prog 26 [1, 1, 0, 1, 0, 0, 1, 0, 0, 1, 1, 1, 0, 0]) (tollwayref24_CheckAll_L31_H l_0 k3 k5) .normal (S 39 [(0, .lst (fl Tapi_Discount.enc l_0) l_0.length), (3, .int .i64 (↑k3 : Int)), (5, .int .i64 ((↑k5 : Int) + 1))] []) :=
  Does.of_viewM 0 400 (cs 2 ((.op none .a) :: (.br true) :: (cs 2 ((.op none (.i k5)) :: (.op none .c) :: (.op none (.v [.str x40.Name])) :: (cs 2 [.op none (.i k3), .op none .c, .op none (.v [.str x42.Name]), .op none .a, .br false, .op none .c, .op none .w, .op none .c]))))) [] (ps := [((decide ((↑k5 : Int) < (↑k3 : Int))) = true), ((↑k5 : Int) = ((k5 : Nat) : Int) ∧ k5 < l_0.length), ((fl Tapi_Discount.enc l_0) ≠ []), (sub (fl Tapi_Discount.enc l_0) (k5 * 10) 1 = [.str x40.Name]), ((↑k3 : Int) = ((k3 : Nat) : Int) ∧ k3 < l_0.length), ((fl Tapi_Discount.enc l_0) ≠ []), (sub (fl Tapi_Discount.enc l_0) (k3 * 10) 1 = [.str x42.Name]), ((x40.Name == x42.Name) = false), (IntKind.min .i64 ≤ ((↑k5 : Int) + 1) ∧ ((↑k5 : Int) + 1) ≤ IntKind.max .i64)]) (by kernel_rfl) (by kernel_rfl) ⟨(decide_eq_true c39), ⟨rfl, get_lt h41⟩, (fl_ne (f := Tapi_Discount.enc) (z := 9) (fun _ => rfl) h41), (fl_sub (f := Tapi_Discount.enc) (z := 10) (j := k5) (a := 0) (n := 1) (fun _ => rfl) h41 (by decide) rfl), ⟨rfl, get_lt h43⟩, (fl_ne (f := Tapi_Discount.enc) (z := 9) (fun _ => rfl) h43), (fl_sub (f := Tapi_Discount.enc) (z := 10) (j := k3) (a := 0) (n := 1) (fun _ => rfl) h43 (by decide) rfl), (beq_f c44), ok1 h45⟩
theorem tollwayref24_CheckAll_L31_2 (l_0 : (List Tapi_Discount)) (k3 : Nat) (k5 : Nat) (c39 : ¬ ((↑k5 : Int) < (↑k3 : Int))) : Does Try.prog G0 0 (bodyAt Try.prog 26 [1, 1, 0, 1, 0, 0, 1, 0, 0, 1, 1, 1, 0, 0]) (tollwayref24_CheckAll_L31_H l_0 k3 k5) (.exit 2) (S 39 [(0, .lst (fl Tapi_Discount.enc l_0) l_0.length), (3, .int .i64 (↑k3 : Int))] []) :=
  Does.of_viewM 0 400 (cs 2 [.op none .a, .br false]) [] (ps := [((decide ((↑k5 : Int) < (↑k3 : Int))) = false)]) (by kernel_rfl) (by kernel_rfl) (ok1 (decide_eq_false c39))
def tollwayref24_CheckAll_L31_X (l_0 : (List Tapi_Discount)) (k3 : Nat) : (Unit ⊕ Unit) → AEx := fun q => match q with | Sum.inl o => .ret | Sum.inr (o) => (.exit 2)
def tollwayref24_CheckAll_L31_E (l_0 : (List Tapi_Discount)) (k3 : Nat) : (Unit ⊕ Unit) → St := fun q => match q with | Sum.inl o => S 39 [(2, .int .i64 9)] [] | Sum.inr (o) => S 39 [(0, .lst (fl Tapi_Discount.enc l_0) l_0.length), (3, .int .i64 (↑k3 : Int))] []
theorem tollwayref24_CheckAll_L31_does (l_0 : (List Tapi_Discount)) (k3 : Nat) {s : Nat} {r : Unit ⊕ Unit} (h : lp (tollwayref24_CheckAll_L31_step l_0 k3) s = some r) : Does Try.prog G0 0 (.loop (bodyAt Try.prog 26 [1, 1, 0, 1, 0, 0, 1, 0, 0, 1, 1, 1, 0, 0])) (tollwayref24_CheckAll_L31_H l_0 k3 s) (tollwayref24_CheckAll_L31_X l_0 k3 r) (tollwayref24_CheckAll_L31_E l_0 k3 r) := by
  refine Does.lp (H := tollwayref24_CheckAll_L31_H l_0 k3) (X := tollwayref24_CheckAll_L31_X l_0 k3) (E := tollwayref24_CheckAll_L31_E l_0 k3) (fun s s2 h => ?_) (fun s r h => ?_) h
  · revert h; revert s; intro k5 h
    unfold tollwayref24_CheckAll_L31_step at h
    try dsimp only at h
    rcases ite_some h with ⟨c39, h⟩ | ⟨c39, h⟩
    · obtain ⟨x40, h41, h⟩ := bind_some h
      obtain ⟨x42, h43, h⟩ := bind_some h
      rcases ite_some h with ⟨c44, h⟩ | ⟨c44, h⟩
      · simp at h
      · obtain ⟨h45, h⟩ := guard_some h
        simp only [Option.some.injEq, Sum.inl.injEq] at h
        subst h
        have hq := tollwayref24_CheckAll_L31_1 l_0 k3 k5 c39 x40 h41 x42 h43 c44 h45
        first | exact hq | exact Eq.mp (by simp only [tollwayref24_CheckAll_L31_H, List.length_set] <;> rfl) hq
    · simp at h
  · revert h; revert s; intro k5 h
    unfold tollwayref24_CheckAll_L31_step at h
    try dsimp only at h
    rcases ite_some h with ⟨c39, h⟩ | ⟨c39, h⟩
    · obtain ⟨x40, h41, h⟩ := bind_some h
      obtain ⟨x42, h43, h⟩ := bind_some h
      rcases ite_some h with ⟨c44, h⟩ | ⟨c44, h⟩
      · simp only [Option.some.injEq, Sum.inr.injEq] at h
        subst h
        exact ⟨tollwayref24_CheckAll_L31_0 l_0 k3 k5 c39 x40 h41 x42 h43 c44, by intro q; cases q⟩
      · obtain ⟨h45, h⟩ := guard_some h
        simp at h
    · simp only [Option.some.injEq, Sum.inr.injEq] at h
      subst h
      exact ⟨tollwayref24_CheckAll_L31_2 l_0 k3 k5 c39, by intro q; cases q⟩
noncomputable def tollwayref24_CheckAll_L2_step (l_0 : (List Tapi_Discount)) : Nat → Option (Nat ⊕ (Int ⊕ Unit)) := fun k3 =>
  if (↑k3 : Int) < (↑l_0.length : Int) then
    (l_0[k3]?).bind fun x26 =>
    (tollwayref24_Check x26).bind fun r28 =>
    if r28 = (0 : Int) then
      (lp (tollwayref24_CheckAll_L31_step l_0 k3) (0 : Nat)).bind fun qq => match qq with
      | Sum.inl o31 =>
        some (Sum.inr (Sum.inl 9))
      | Sum.inr (o31) =>
        if InR .i64 ((↑k3 : Int) + 1) then
          some (Sum.inl (k3 + 1))
        else none
    else
      some (Sum.inr (Sum.inl r28))
  else
    some (Sum.inr (Sum.inr (())))
def tollwayref24_CheckAll_L2_H (l_0 : (List Tapi_Discount)) : Nat → St := fun (s : Nat) => S 39 [(0, .lst (fl Tapi_Discount.enc l_0) l_0.length), (3, .int .i64 (↑s : Int))] []
theorem tollwayref24_CheckAll_L2_0 (l_0 : (List Tapi_Discount)) (k3 : Nat) (c25 : (↑k3 : Int) < (↑l_0.length : Int)) (x26 : Tapi_Discount) (h27 : l_0[k3]? = some x26) (r28 : Int) (h29 : tollwayref24_Check x26 = some r28) (c30 : r28 = (0 : Int)) (o31 : Unit) (hl31 : lp (tollwayref24_CheckAll_L31_step l_0 k3) (0 : Nat) = some (Sum.inl o31)) : Does Try.prog G0 0 (bodyAt Try.prog 26 [1, 1, 0, 1, 0, 0]) (tollwayref24_CheckAll_L2_H l_0 k3) .ret (S 39 [(2, .int .i64 9)] []) :=
  Does.of_viewM 0 400 (cs 3 ((.op none .a) :: (.br true) :: (cs 2 ((.op none (.i k3)) :: (.op none (.v [.str x26.Name, .int .i64 x26.Kind, .int .i64 x26.Amount, .str x26.Group, .str x26.System, .int .i64 x26.Class, .int .i64 x26.Window.Days, .int .i64 x26.Window.From, .int .i64 x26.Window.To, .int .i64 x26.Least])) :: (.ret none [.agg (Tapi_Discount.enc x26)] (.int .i64 r28) []) :: (cs 2 [.op none .a, .br false, .op none .c, .fcut 0 .ret [(2, .int .i64 9)] [] [] [(0, .lst (fl Tapi_Discount.enc l_0) l_0.length), (3, .int .i64 (↑k3 : Int)), (5, .int .i64 (↑(0 : Nat) : Int))] []]))))) [] (ps := [((decide ((↑k3 : Int) < (↑l_0.length : Int))) = true), ((↑k3 : Int) = ((k3 : Nat) : Int) ∧ k3 < l_0.length), ((fl Tapi_Discount.enc l_0) ≠ []), (sub (fl Tapi_Discount.enc l_0) (k3 * 10) 10 = [.str x26.Name, .int .i64 x26.Kind, .int .i64 x26.Amount, .str x26.Group, .str x26.System, .int .i64 x26.Class, .int .i64 x26.Window.Days, .int .i64 x26.Window.From, .int .i64 x26.Window.To, .int .i64 x26.Least]), ((.agg (Tapi_Discount.enc x26) : AV) = .agg (Tapi_Discount.enc x26)), (Ret Try.prog G0 40 [.agg (Tapi_Discount.enc x26)] (.int .i64 r28) []), ((!(r28 == (0 : Int))) = false), ((.lst (fl Tapi_Discount.enc l_0) l_0.length : AV) = .lst (fl Tapi_Discount.enc l_0) l_0.length), ((.int .i64 (↑k3 : Int) : AV) = .int .i64 (↑k3 : Int)), ((.int .i64 0 : AV) = .int .i64 (↑(0 : Nat) : Int)), (Does Try.prog G0 0 (.loop (bodyAt Try.prog 26 [1, 1, 0, 1, 0, 0, 1, 0, 0, 1, 1, 1, 0, 0])) (S 39 [(0, .lst (fl Tapi_Discount.enc l_0) l_0.length), (3, .int .i64 (↑k3 : Int)), (5, .int .i64 (↑(0 : Nat) : Int))] []) .ret (S 39 [(2, .int .i64 9)] []))]) (by kernel_rfl) (by kernel_rfl) ⟨(decide_eq_true c25), ⟨rfl, get_lt h27⟩, (fl_ne (f := Tapi_Discount.enc) (z := 9) (fun _ => rfl) h27), (fl_sub0 (f := Tapi_Discount.enc) (z := 10) (j := k3) (fun _ => rfl) h27 rfl), rfl, (tollwayref24_Check_ret x26 r28 h29), (not_f (beq_t c30)), rfl, rfl, rfl, ok1 (tollwayref24_CheckAll_L31_does l_0 k3 (s := (0 : Nat)) (r := Sum.inl o31) hl31)⟩
theorem tollwayref24_CheckAll_L2_1 (l_0 : (List Tapi_Discount)) (k3 : Nat) (c25 : (↑k3 : Int) < (↑l_0.length : Int)) (x26 : Tapi_Discount) (h27 : l_0[k3]? = some x26) (r28 : Int) (h29 : tollwayref24_Check x26 = some r28) (c30 : r28 = (0 : Int)) (o31 : Unit) (hl31 : lp (tollwayref24_CheckAll_L31_step l_0 k3) (0 : Nat) = some (Sum.inr (o31))) (h46 : InR .i64 ((↑k3 : Int) + 1)) : Does Try.prog G0 0 (bodyAt Try.prog 26 [1, 1, 0, 1, 0, 0]) (tollwayref24_CheckAll_L2_H l_0 k3) .normal (S 39 [(0, .lst (fl Tapi_Discount.enc l_0) l_0.length), (3, .int .i64 ((↑k3 : Int) + 1))] []) :=
  Does.of_viewM 0 400 (cs 3 ((.op none .a) :: (.br true) :: (cs 2 ((.op none (.i k3)) :: (.op none (.v [.str x26.Name, .int .i64 x26.Kind, .int .i64 x26.Amount, .str x26.Group, .str x26.System, .int .i64 x26.Class, .int .i64 x26.Window.Days, .int .i64 x26.Window.From, .int .i64 x26.Window.To, .int .i64 x26.Least])) :: (.ret none [.agg (Tapi_Discount.enc x26)] (.int .i64 r28) []) :: (cs 2 [.op none .a, .br false, .op none .c, .fcut 0 (.exit 2) [(0, .lst (fl Tapi_Discount.enc l_0) l_0.length), (3, .int .i64 (↑k3 : Int))] [] [] [(0, .lst (fl Tapi_Discount.enc l_0) l_0.length), (3, .int .i64 (↑k3 : Int)), (5, .int .i64 (↑(0 : Nat) : Int))] [], .op none .c, .op none .w, .op none .c]))))) [] (ps := [((decide ((↑k3 : Int) < (↑l_0.length : Int))) = true), ((↑k3 : Int) = ((k3 : Nat) : Int) ∧ k3 < l_0.length), ((fl Tapi_Discount.enc l_0) ≠ []), (sub (fl Tapi_Discount.enc l_0) (k3 * 10) 10 = [.str x26.Name, .int .i64 x26.Kind, .int .i64 x26.Amount, .str x26.Group, .str x26.System, .int .i64 x26.Class, .int .i64 x26.Window.Days, .int .i64 x26.Window.From, .int .i64 x26.Window.To, .int .i64 x26.Least]), ((.agg (Tapi_Discount.enc x26) : AV) = .agg (Tapi_Discount.enc x26)), (Ret Try.prog G0 40 [.agg (Tapi_Discount.enc x26)] (.int .i64 r28) []), ((!(r28 == (0 : Int))) = false), ((.lst (fl Tapi_Discount.enc l_0) l_0.length : AV) = .lst (fl Tapi_Discount.enc l_0) l_0.length), ((.int .i64 (↑k3 : Int) : AV) = .int .i64 (↑k3 : Int)), ((.int .i64 0 : AV) = .int .i64 (↑(0 : Nat) : Int)), (Does Try.prog G0 0 (.loop (bodyAt Try.prog 26 [1, 1, 0, 1, 0, 0, 1, 0, 0, 1, 1, 1, 0, 0])) (S 39 [(0, .lst (fl Tapi_Discount.enc l_0) l_0.length), (3, .int .i64 (↑k3 : Int)), (5, .int .i64 (↑(0 : Nat) : Int))] []) (.exit 2) (S 39 [(0, .lst (fl Tapi_Discount.enc l_0) l_0.length), (3, .int .i64 (↑k3 : Int))] [])), (IntKind.min .i64 ≤ ((↑k3 : Int) + 1) ∧ ((↑k3 : Int) + 1) ≤ IntKind.max .i64)]) (by kernel_rfl) (by kernel_rfl) ⟨(decide_eq_true c25), ⟨rfl, get_lt h27⟩, (fl_ne (f := Tapi_Discount.enc) (z := 9) (fun _ => rfl) h27), (fl_sub0 (f := Tapi_Discount.enc) (z := 10) (j := k3) (fun _ => rfl) h27 rfl), rfl, (tollwayref24_Check_ret x26 r28 h29), (not_f (beq_t c30)), rfl, rfl, rfl, (tollwayref24_CheckAll_L31_does l_0 k3 (s := (0 : Nat)) (r := Sum.inr (o31)) hl31), ok1 h46⟩
theorem tollwayref24_CheckAll_L2_2 (l_0 : (List Tapi_Discount)) (k3 : Nat) (c25 : (↑k3 : Int) < (↑l_0.length : Int)) (x26 : Tapi_Discount) (h27 : l_0[k3]? = some x26) (r28 : Int) (h29 : tollwayref24_Check x26 = some r28) (c30 : ¬ (r28 = (0 : Int))) : Does Try.prog G0 0 (bodyAt Try.prog 26 [1, 1, 0, 1, 0, 0]) (tollwayref24_CheckAll_L2_H l_0 k3) .ret (S 39 [(2, .int .i64 r28)] []) :=
  Does.of_viewM 0 400 (cs 3 ((.op none .a) :: (.br true) :: (cs 2 ((.op none (.i k3)) :: (.op none (.v [.str x26.Name, .int .i64 x26.Kind, .int .i64 x26.Amount, .str x26.Group, .str x26.System, .int .i64 x26.Class, .int .i64 x26.Window.Days, .int .i64 x26.Window.From, .int .i64 x26.Window.To, .int .i64 x26.Least])) :: (.ret none [.agg (Tapi_Discount.enc x26)] (.int .i64 r28) []) :: (cs 2 ((.op none .a) :: (.br true) :: (cs 2 []))))))) [] (ps := [((decide ((↑k3 : Int) < (↑l_0.length : Int))) = true), ((↑k3 : Int) = ((k3 : Nat) : Int) ∧ k3 < l_0.length), ((fl Tapi_Discount.enc l_0) ≠ []), (sub (fl Tapi_Discount.enc l_0) (k3 * 10) 10 = [.str x26.Name, .int .i64 x26.Kind, .int .i64 x26.Amount, .str x26.Group, .str x26.System, .int .i64 x26.Class, .int .i64 x26.Window.Days, .int .i64 x26.Window.From, .int .i64 x26.Window.To, .int .i64 x26.Least]), ((.agg (Tapi_Discount.enc x26) : AV) = .agg (Tapi_Discount.enc x26)), (Ret Try.prog G0 40 [.agg (Tapi_Discount.enc x26)] (.int .i64 r28) []), ((!(r28 == (0 : Int))) = true)]) (by kernel_rfl) (by kernel_rfl) ⟨(decide_eq_true c25), ⟨rfl, get_lt h27⟩, (fl_ne (f := Tapi_Discount.enc) (z := 9) (fun _ => rfl) h27), (fl_sub0 (f := Tapi_Discount.enc) (z := 10) (j := k3) (fun _ => rfl) h27 rfl), rfl, (tollwayref24_Check_ret x26 r28 h29), ok1 (not_t (beq_f c30))⟩
theorem tollwayref24_CheckAll_L2_3 (l_0 : (List Tapi_Discount)) (k3 : Nat) (c25 : ¬ ((↑k3 : Int) < (↑l_0.length : Int))) : Does Try.prog G0 0 (bodyAt Try.prog 26 [1, 1, 0, 1, 0, 0]) (tollwayref24_CheckAll_L2_H l_0 k3) (.exit 0) (S 39 [] []) :=
  Does.of_viewM 0 400 (cs 3 [.op none .a, .br false]) [] (ps := [((decide ((↑k3 : Int) < (↑l_0.length : Int))) = false)]) (by kernel_rfl) (by kernel_rfl) (ok1 (decide_eq_false c25))
def tollwayref24_CheckAll_L2_X (l_0 : (List Tapi_Discount)) : (Int ⊕ Unit) → AEx := fun q => match q with | Sum.inl o => .ret | Sum.inr (o) => (.exit 0)
def tollwayref24_CheckAll_L2_E (l_0 : (List Tapi_Discount)) : (Int ⊕ Unit) → St := fun q => match q with | Sum.inl o => S 39 [(2, .int .i64 o)] [] | Sum.inr (o) => S 39 [] []
theorem tollwayref24_CheckAll_L2_does (l_0 : (List Tapi_Discount)) {s : Nat} {r : Int ⊕ Unit} (h : lp (tollwayref24_CheckAll_L2_step l_0) s = some r) : Does Try.prog G0 0 (.loop (bodyAt Try.prog 26 [1, 1, 0, 1, 0, 0])) (tollwayref24_CheckAll_L2_H l_0 s) (tollwayref24_CheckAll_L2_X l_0 r) (tollwayref24_CheckAll_L2_E l_0 r) := by
  refine Does.lp (H := tollwayref24_CheckAll_L2_H l_0) (X := tollwayref24_CheckAll_L2_X l_0) (E := tollwayref24_CheckAll_L2_E l_0) (fun s s2 h => ?_) (fun s r h => ?_) h
  · revert h; revert s; intro k3 h
    unfold tollwayref24_CheckAll_L2_step at h
    try dsimp only at h
    rcases ite_some h with ⟨c25, h⟩ | ⟨c25, h⟩
    · obtain ⟨x26, h27, h⟩ := bind_some h
      obtain ⟨r28, h29, h⟩ := bind_some h
      rcases ite_some h with ⟨c30, h⟩ | ⟨c30, h⟩
      · obtain ⟨qq, hl31, h⟩ := bind_some h
        rcases qq with o31 | o31
        · dsimp only at h
          simp at h
        · dsimp only at h
          obtain ⟨h46, h⟩ := guard_some h
          simp only [Option.some.injEq, Sum.inl.injEq] at h
          subst h
          have hq := tollwayref24_CheckAll_L2_1 l_0 k3 c25 x26 h27 r28 h29 c30 o31 hl31 h46
          first | exact hq | exact Eq.mp (by simp only [tollwayref24_CheckAll_L2_H, List.length_set] <;> rfl) hq
      · simp at h
    · simp at h
  · revert h; revert s; intro k3 h
    unfold tollwayref24_CheckAll_L2_step at h
    try dsimp only at h
    rcases ite_some h with ⟨c25, h⟩ | ⟨c25, h⟩
    · obtain ⟨x26, h27, h⟩ := bind_some h
      obtain ⟨r28, h29, h⟩ := bind_some h
      rcases ite_some h with ⟨c30, h⟩ | ⟨c30, h⟩
      · obtain ⟨qq, hl31, h⟩ := bind_some h
        rcases qq with o31 | o31
        · dsimp only at h
          simp only [Option.some.injEq, Sum.inr.injEq] at h
          subst h
          exact ⟨tollwayref24_CheckAll_L2_0 l_0 k3 c25 x26 h27 r28 h29 c30 o31 hl31, by intro q; cases q⟩
        · dsimp only at h
          obtain ⟨h46, h⟩ := guard_some h
          simp at h
      · simp only [Option.some.injEq, Sum.inr.injEq] at h
        subst h
        exact ⟨tollwayref24_CheckAll_L2_2 l_0 k3 c25 x26 h27 r28 h29 c30, by intro q; cases q⟩
    · simp only [Option.some.injEq, Sum.inr.injEq] at h
      subst h
      exact ⟨tollwayref24_CheckAll_L2_3 l_0 k3 c25, by intro q; cases q⟩
noncomputable def tollwayref24_CheckAll (l_0 : (List Tapi_Discount)) : Option Int :=
  if (↑l_0.length : Int) > (12 : Int) then
    some 3
  else
    (lp (tollwayref24_CheckAll_L2_step l_0) (0 : Nat)).bind fun qq => match qq with
    | Sum.inl o2 =>
      some o2
    | Sum.inr (o2) =>
      some 0
def tollwayref24_CheckAll_h1  : List CH := (cs 3 [.op none .a])
def tollwayref24_CheckAll_p2 (l_0 : (List Tapi_Discount)) : List Prop := [((decide ((↑l_0.length : Int) > (12 : Int))) = false), ((.lst (fl Tapi_Discount.enc l_0) l_0.length : AV) = .lst (fl Tapi_Discount.enc l_0) l_0.length), ((.int .i64 0 : AV) = .int .i64 (↑(0 : Nat) : Int))]
theorem tollwayref24_CheckAll_p2q (l_0 : (List Tapi_Discount)) (c1 : ¬ ((↑l_0.length : Int) > (12 : Int))) : allOk (tollwayref24_CheckAll_p2 l_0) := ⟨(decide_eq_false c1), rfl, ok1 rfl⟩
theorem tollwayref24_CheckAll_0 (l_0 : (List Tapi_Discount)) (c1 : (↑l_0.length : Int) > (12 : Int)) : Ret Try.prog G0 26 [.lst (fl Tapi_Discount.enc l_0) l_0.length] (.int .i64 3) [] :=
  Ret.of_view 400 ((tollwayref24_CheckAll_h1) ++ [.br true, .op none .c]) [] (ps := [((decide ((↑l_0.length : Int) > (12 : Int))) = true)]) (by kernel_rfl) (by kernel_rfl) (ok1 (decide_eq_true c1))
theorem tollwayref24_CheckAll_1 (l_0 : (List Tapi_Discount)) (c1 : ¬ ((↑l_0.length : Int) > (12 : Int))) (o2 : Int) (hl2 : lp (tollwayref24_CheckAll_L2_step l_0) (0 : Nat) = some (Sum.inl o2)) : Ret Try.prog G0 26 [.lst (fl Tapi_Discount.enc l_0) l_0.length] (.int .i64 o2) [] :=
  Ret.of_view 400 ((tollwayref24_CheckAll_h1) ++ ([.br false, .op none .c] ++ [.fcut 0 .ret [(2, .int .i64 o2)] [] [] [(0, .lst (fl Tapi_Discount.enc l_0) l_0.length), (3, .int .i64 (↑(0 : Nat) : Int))] []])) [] (ps := ((tollwayref24_CheckAll_p2 l_0) ++ [(Does Try.prog G0 0 (.loop (bodyAt Try.prog 26 [1, 1, 0, 1, 0, 0])) (S 39 [(0, .lst (fl Tapi_Discount.enc l_0) l_0.length), (3, .int .i64 (↑(0 : Nat) : Int))] []) .ret (S 39 [(2, .int .i64 o2)] []))])) (by kernel_rfl) (by kernel_rfl) (allOk_append.2 ⟨(tollwayref24_CheckAll_p2q l_0 c1), (ok1 (tollwayref24_CheckAll_L2_does l_0 (s := (0 : Nat)) (r := Sum.inl o2) hl2))⟩)
theorem tollwayref24_CheckAll_2 (l_0 : (List Tapi_Discount)) (c1 : ¬ ((↑l_0.length : Int) > (12 : Int))) (o2 : Unit) (hl2 : lp (tollwayref24_CheckAll_L2_step l_0) (0 : Nat) = some (Sum.inr (o2))) : Ret Try.prog G0 26 [.lst (fl Tapi_Discount.enc l_0) l_0.length] (.int .i64 0) [] :=
  Ret.of_view 400 ((tollwayref24_CheckAll_h1) ++ ([.br false, .op none .c] ++ [.fcut 0 (.exit 0) [] [] [] [(0, .lst (fl Tapi_Discount.enc l_0) l_0.length), (3, .int .i64 (↑(0 : Nat) : Int))] [], .op none .c])) [] (ps := ((tollwayref24_CheckAll_p2 l_0) ++ [(Does Try.prog G0 0 (.loop (bodyAt Try.prog 26 [1, 1, 0, 1, 0, 0])) (S 39 [(0, .lst (fl Tapi_Discount.enc l_0) l_0.length), (3, .int .i64 (↑(0 : Nat) : Int))] []) (.exit 0) (S 39 [] []))])) (by kernel_rfl) (by kernel_rfl) (allOk_append.2 ⟨(tollwayref24_CheckAll_p2q l_0 c1), (ok1 (tollwayref24_CheckAll_L2_does l_0 (s := (0 : Nat)) (r := Sum.inr (o2)) hl2))⟩)
theorem tollwayref24_CheckAll_ret (l_0 : (List Tapi_Discount)) (r : Int) (h : tollwayref24_CheckAll l_0 = some r) : Ret Try.prog G0 26 [.lst (fl Tapi_Discount.enc l_0) l_0.length] (.int .i64 r) [] := by
  unfold tollwayref24_CheckAll at h
  rcases ite_some h with ⟨c1, h⟩ | ⟨c1, h⟩
  · simp only [Option.some.injEq] at h
    subst h
    exact tollwayref24_CheckAll_0 l_0 c1
  · obtain ⟨qq, hl2, h⟩ := bind_some h
    rcases qq with o2 | o2
    · dsimp only at h
      simp only [Option.some.injEq] at h
      subst h
      exact tollwayref24_CheckAll_1 l_0 c1 o2 hl2
    · dsimp only at h
      simp only [Option.some.injEq] at h
      subst h
      exact tollwayref24_CheckAll_2 l_0 c1 o2 hl2
end Go.Proofs.Ytabjlmlfmafllaa.Av
