import Derived.Test.YteljonodbkkckaaAvX
import Derived.Test.YteljonodbkkckaaProg
import Derived.Tactics
import Derived.Test.YteljonodbkkckaaAwk
import Derived.Test.YteljonodbkkckaaB0
import Derived.Test.YteljonodbkkckaaB1
set_option linter.unusedVariables false
set_option linter.unusedSimpArgs false
set_option maxHeartbeats 4000000
namespace Go.Proofs.Yteljonodbkkckaa.Av
open Go Go.Proofs
noncomputable def tollwaylaw49_great_L7_step (s_0 : Tapi_State) : (Int × Nat) → Option ((Int × Nat) ⊕ Int)
  | (v3, k60) =>
    if (↑k60 : Int) < (↑s_0.Seen.length : Int) then
      (s_0.Seen[k60]?).bind fun x20 =>
      if InR .i64 ((if 30000 < (↑x20.D.Device.length : Int) then 30000 else (↑x20.D.Device.length : Int)) + (if 30000 < (↑x20.D.Tag.length : Int) then 30000 else (↑x20.D.Tag.length : Int))) then
        (some ((if 30000 < (↑x20.D.Device.length : Int) then 30000 else (↑x20.D.Device.length : Int)) + (if 30000 < (↑x20.D.Tag.length : Int) then 30000 else (↑x20.D.Tag.length : Int)))).bind fun y23 =>
        if InR .i64 (y23 + (if 30000 < (↑x20.D.Plate.length : Int) then 30000 else (↑x20.D.Plate.length : Int))) then
          (some (y23 + (if 30000 < (↑x20.D.Plate.length : Int) then 30000 else (↑x20.D.Plate.length : Int)))).bind fun y26 =>
          if InR .i64 (v3 + y26) then
            if InR .i64 ((↑k60 : Int) + 1) then
              some (Sum.inl ((v3 + y26), (k60 + 1)))
            else none
          else none
        else none
      else none
    else
      some (Sum.inr v3)
def tollwaylaw49_great_L7_H (s_0 : Tapi_State) : (Int × Nat) → St := fun (s : (Int × Nat)) => S 233 [(1, .ptr 0 0), (3, .int .i64 s.1), (58, .lst (fl Tapi_Seen.enc s_0.Seen) s_0.Seen.length), (59, .int .i64 (↑s_0.Seen.length : Int)), (60, .int .i64 (↑s.2 : Int))] [{ c := (Tapi_State.enc s_0), e := 64, ext := false, fz := 0, pl := true, o := false }]
theorem tollwaylaw49_great_L7_0 (s_0 : Tapi_State) (v3 : Int) (k60 : Nat) (c19 : (↑k60 : Int) < (↑s_0.Seen.length : Int)) (x20 : Tapi_Seen) (h21 : s_0.Seen[k60]? = some x20) (h22 : InR .i64 ((if 30000 < (↑x20.D.Device.length : Int) then 30000 else (↑x20.D.Device.length : Int)) + (if 30000 < (↑x20.D.Tag.length : Int) then 30000 else (↑x20.D.Tag.length : Int)))) (y23 : Int) (h24 : some ((if 30000 < (↑x20.D.Device.length : Int) then 30000 else (↑x20.D.Device.length : Int)) + (if 30000 < (↑x20.D.Tag.length : Int) then 30000 else (↑x20.D.Tag.length : Int))) = some y23) (h25 : InR .i64 (y23 + (if 30000 < (↑x20.D.Plate.length : Int) then 30000 else (↑x20.D.Plate.length : Int)))) (y26 : Int) (h27 : some (y23 + (if 30000 < (↑x20.D.Plate.length : Int) then 30000 else (↑x20.D.Plate.length : Int))) = some y26) (h28 : InR .i64 (v3 + y26)) (h29 : InR .i64 ((↑k60 : Int) + 1)) : Does Try.prog G0 1 (bodyAt Try.prog 12 [1, 1, 1, 0, 1, 0, 0]) (tollwaylaw49_great_L7_H s_0 (v3, k60)) .normal (S 233 [(1, .ptr 0 0), (3, .int .i64 (v3 + y26)), (58, .lst (fl Tapi_Seen.enc s_0.Seen) s_0.Seen.length), (59, .int .i64 (↑s_0.Seen.length : Int)), (60, .int .i64 ((↑k60 : Int) + 1))] [{ c := (Tapi_State.enc s_0), e := 64, ext := false, fz := 0, pl := true, o := false }]) :=
  Does.of_viewM 1 400 ((.op none .a) :: (.br true) :: (.op none (.i k60)) :: (.op none (.v [.str x20.D.Device, .int .i64 x20.D.Seq, .int .i64 x20.D.Time, .str x20.D.Tag, .str x20.D.Plate, .int .i64 x20.D.Axles, .int .i64 x20.D.Score, .int .i64 x20.Time, .str x20.Point, .int .i64 x20.Lane, .int .i64 x20.Kind])) :: (cs 7 ((.op none .a) :: (cs 4 ((.op none .a) :: (.op none .w) :: (.tr (.eqt (.t 75) (.int .i64 y23))) :: (cs 4 [.op none .a, .op none .w, .tr (.eqt (.t 81) (.int .i64 y26)), .op none .w, .op none .c, .op none .w, .op none .c])))))) [0] (ps := [((decide ((↑k60 : Int) < (↑s_0.Seen.length : Int))) = true), ((↑k60 : Int) = ((k60 : Nat) : Int) ∧ k60 < s_0.Seen.length), ((fl Tapi_Seen.enc s_0.Seen) ≠ []), (sub (fl Tapi_Seen.enc s_0.Seen) (k60 * 11) 11 = [.str x20.D.Device, .int .i64 x20.D.Seq, .int .i64 x20.D.Time, .str x20.D.Tag, .str x20.D.Plate, .int .i64 x20.D.Axles, .int .i64 x20.D.Score, .int .i64 x20.Time, .str x20.Point, .int .i64 x20.Lane, .int .i64 x20.Kind]), (IntKind.min .i64 ≤ ((if 30000 < (↑x20.D.Device.length : Int) then 30000 else (↑x20.D.Device.length : Int)) + (if 30000 < (↑x20.D.Tag.length : Int) then 30000 else (↑x20.D.Tag.length : Int))) ∧ ((if 30000 < (↑x20.D.Device.length : Int) then 30000 else (↑x20.D.Device.length : Int)) + (if 30000 < (↑x20.D.Tag.length : Int) then 30000 else (↑x20.D.Tag.length : Int))) ≤ IntKind.max .i64), ((.int .i64 ((if 30000 < (↑x20.D.Device.length : Int) then 30000 else (↑x20.D.Device.length : Int)) + (if 30000 < (↑x20.D.Tag.length : Int) then 30000 else (↑x20.D.Tag.length : Int))) : AV) = .int .i64 y23), (IntKind.min .i64 ≤ (y23 + (if 30000 < (↑x20.D.Plate.length : Int) then 30000 else (↑x20.D.Plate.length : Int))) ∧ (y23 + (if 30000 < (↑x20.D.Plate.length : Int) then 30000 else (↑x20.D.Plate.length : Int))) ≤ IntKind.max .i64), ((.int .i64 (y23 + (if 30000 < (↑x20.D.Plate.length : Int) then 30000 else (↑x20.D.Plate.length : Int))) : AV) = .int .i64 y26), (IntKind.min .i64 ≤ (v3 + y26) ∧ (v3 + y26) ≤ IntKind.max .i64), (IntKind.min .i64 ≤ ((↑k60 : Int) + 1) ∧ ((↑k60 : Int) + 1) ≤ IntKind.max .i64)]) (by kernel_rfl) (by kernel_rfl) ⟨(decide_eq_true c19), ⟨rfl, get_lt h21⟩, (fl_ne (f := Tapi_Seen.enc) (z := 10) (fun _ => rfl) h21), (fl_sub0 (f := Tapi_Seen.enc) (z := 11) (j := k60) (fun _ => rfl) h21 rfl), h22, (congrArg _ (Option.some.inj h24)), h25, (congrArg _ (Option.some.inj h27)), h28, ok1 h29⟩
theorem tollwaylaw49_great_L7_1 (s_0 : Tapi_State) (v3 : Int) (k60 : Nat) (c19 : ¬ ((↑k60 : Int) < (↑s_0.Seen.length : Int))) : Does Try.prog G0 1 (bodyAt Try.prog 12 [1, 1, 1, 0, 1, 0, 0]) (tollwaylaw49_great_L7_H s_0 (v3, k60)) (.exit 0) (S 233 [(1, .ptr 0 0), (3, .int .i64 v3)] [{ c := (Tapi_State.enc s_0), e := 64, ext := false, fz := 0, pl := true, o := false }]) :=
  Does.of_viewM 1 400 [.op none .a, .br false] [0] (ps := [((decide ((↑k60 : Int) < (↑s_0.Seen.length : Int))) = false)]) (by kernel_rfl) (by kernel_rfl) (ok1 (decide_eq_false c19))
def tollwaylaw49_great_L7_X (s_0 : Tapi_State) : Int → AEx := fun o => (.exit 0)
def tollwaylaw49_great_L7_E (s_0 : Tapi_State) : Int → St := fun o => S 233 [(1, .ptr 0 0), (3, .int .i64 o)] [{ c := (Tapi_State.enc s_0), e := 64, ext := false, fz := 0, pl := true, o := false }]
theorem tollwaylaw49_great_L7_does (s_0 : Tapi_State) {s : (Int × Nat)} {r : Int} (h : lp (tollwaylaw49_great_L7_step s_0) s = some r) : Does Try.prog G0 1 (.loop (bodyAt Try.prog 12 [1, 1, 1, 0, 1, 0, 0])) (tollwaylaw49_great_L7_H s_0 s) (tollwaylaw49_great_L7_X s_0 r) (tollwaylaw49_great_L7_E s_0 r) := by
  refine Does.lp (H := tollwaylaw49_great_L7_H s_0) (X := tollwaylaw49_great_L7_X s_0) (E := tollwaylaw49_great_L7_E s_0) (fun s s2 h => ?_) (fun s r h => ?_) h
  · obtain ⟨v3, k60⟩ := s
    unfold tollwaylaw49_great_L7_step at h
    try dsimp only at h
    rcases ite_some h with ⟨c19, h⟩ | ⟨c19, h⟩
    · obtain ⟨x20, h21, h⟩ := bind_some h
      obtain ⟨h22, h⟩ := guard_some h
      obtain ⟨y23, h24, h⟩ := bind_some h
      obtain ⟨h25, h⟩ := guard_some h
      obtain ⟨y26, h27, h⟩ := bind_some h
      obtain ⟨h28, h⟩ := guard_some h
      obtain ⟨h29, h⟩ := guard_some h
      simp only [Option.some.injEq, Sum.inl.injEq] at h
      subst h
      exact tollwaylaw49_great_L7_0 s_0 v3 k60 c19 x20 h21 h22 y23 h24 h25 y26 h27 h28 h29
    · simp at h
  · obtain ⟨v3, k60⟩ := s
    unfold tollwaylaw49_great_L7_step at h
    try dsimp only at h
    rcases ite_some h with ⟨c19, h⟩ | ⟨c19, h⟩
    · obtain ⟨x20, h21, h⟩ := bind_some h
      obtain ⟨h22, h⟩ := guard_some h
      obtain ⟨y23, h24, h⟩ := bind_some h
      obtain ⟨h25, h⟩ := guard_some h
      obtain ⟨y26, h27, h⟩ := bind_some h
      obtain ⟨h28, h⟩ := guard_some h
      obtain ⟨h29, h⟩ := guard_some h
      simp at h
    · simp only [Option.some.injEq, Sum.inr.injEq] at h
      subst h
      exact ⟨tollwaylaw49_great_L7_1 s_0 v3 k60 c19, by intro q; cases q⟩
noncomputable def tollwaylaw49_great_L30_step (s_0 : Tapi_State) : (Int × Nat) → Option ((Int × Nat) ⊕ Int)
  | (v3, k87) =>
    if (↑k87 : Int) < (↑s_0.Rejects.length : Int) then
      (s_0.Rejects[k87]?).bind fun x43 =>
      if InR .i64 ((if 30000 < (↑x43.D.Device.length : Int) then 30000 else (↑x43.D.Device.length : Int)) + (if 30000 < (↑x43.D.Tag.length : Int) then 30000 else (↑x43.D.Tag.length : Int))) then
        (some ((if 30000 < (↑x43.D.Device.length : Int) then 30000 else (↑x43.D.Device.length : Int)) + (if 30000 < (↑x43.D.Tag.length : Int) then 30000 else (↑x43.D.Tag.length : Int)))).bind fun y46 =>
        if InR .i64 (y46 + (if 30000 < (↑x43.D.Plate.length : Int) then 30000 else (↑x43.D.Plate.length : Int))) then
          (some (y46 + (if 30000 < (↑x43.D.Plate.length : Int) then 30000 else (↑x43.D.Plate.length : Int)))).bind fun y49 =>
          if InR .i64 (v3 + y49) then
            if InR .i64 ((↑k87 : Int) + 1) then
              some (Sum.inl ((v3 + y49), (k87 + 1)))
            else none
          else none
        else none
      else none
    else
      some (Sum.inr v3)
def tollwaylaw49_great_L30_H (s_0 : Tapi_State) : (Int × Nat) → St := fun (s : (Int × Nat)) => S 233 [(1, .ptr 0 0), (3, .int .i64 s.1), (85, .lst (fl Tapi_Reject.enc s_0.Rejects) s_0.Rejects.length), (86, .int .i64 (↑s_0.Rejects.length : Int)), (87, .int .i64 (↑s.2 : Int))] [{ c := (Tapi_State.enc s_0), e := 64, ext := false, fz := 0, pl := true, o := false }]
theorem tollwaylaw49_great_L30_0 (s_0 : Tapi_State) (v3 : Int) (k87 : Nat) (c42 : (↑k87 : Int) < (↑s_0.Rejects.length : Int)) (x43 : Tapi_Reject) (h44 : s_0.Rejects[k87]? = some x43) (h45 : InR .i64 ((if 30000 < (↑x43.D.Device.length : Int) then 30000 else (↑x43.D.Device.length : Int)) + (if 30000 < (↑x43.D.Tag.length : Int) then 30000 else (↑x43.D.Tag.length : Int)))) (y46 : Int) (h47 : some ((if 30000 < (↑x43.D.Device.length : Int) then 30000 else (↑x43.D.Device.length : Int)) + (if 30000 < (↑x43.D.Tag.length : Int) then 30000 else (↑x43.D.Tag.length : Int))) = some y46) (h48 : InR .i64 (y46 + (if 30000 < (↑x43.D.Plate.length : Int) then 30000 else (↑x43.D.Plate.length : Int)))) (y49 : Int) (h50 : some (y46 + (if 30000 < (↑x43.D.Plate.length : Int) then 30000 else (↑x43.D.Plate.length : Int))) = some y49) (h51 : InR .i64 (v3 + y49)) (h52 : InR .i64 ((↑k87 : Int) + 1)) : Does Try.prog G0 1 (bodyAt Try.prog 12 [1, 1, 1, 1, 0, 1, 0, 0]) (tollwaylaw49_great_L30_H s_0 (v3, k87)) .normal (S 233 [(1, .ptr 0 0), (3, .int .i64 (v3 + y49)), (85, .lst (fl Tapi_Reject.enc s_0.Rejects) s_0.Rejects.length), (86, .int .i64 (↑s_0.Rejects.length : Int)), (87, .int .i64 ((↑k87 : Int) + 1))] [{ c := (Tapi_State.enc s_0), e := 64, ext := false, fz := 0, pl := true, o := false }]) :=
  Does.of_viewM 1 400 ((.op none .a) :: (.br true) :: (.op none (.i k87)) :: (.op none (.v [.str x43.D.Device, .int .i64 x43.D.Seq, .int .i64 x43.D.Time, .str x43.D.Tag, .str x43.D.Plate, .int .i64 x43.D.Axles, .int .i64 x43.D.Score, .int .i64 x43.Why])) :: (cs 7 ((.op none .a) :: (cs 4 ((.op none .a) :: (.op none .w) :: (.tr (.eqt (.t 102) (.int .i64 y46))) :: (cs 4 [.op none .a, .op none .w, .tr (.eqt (.t 108) (.int .i64 y49)), .op none .w, .op none .c, .op none .w, .op none .c])))))) [0] (ps := [((decide ((↑k87 : Int) < (↑s_0.Rejects.length : Int))) = true), ((↑k87 : Int) = ((k87 : Nat) : Int) ∧ k87 < s_0.Rejects.length), ((fl Tapi_Reject.enc s_0.Rejects) ≠ []), (sub (fl Tapi_Reject.enc s_0.Rejects) (k87 * 8) 8 = [.str x43.D.Device, .int .i64 x43.D.Seq, .int .i64 x43.D.Time, .str x43.D.Tag, .str x43.D.Plate, .int .i64 x43.D.Axles, .int .i64 x43.D.Score, .int .i64 x43.Why]), (IntKind.min .i64 ≤ ((if 30000 < (↑x43.D.Device.length : Int) then 30000 else (↑x43.D.Device.length : Int)) + (if 30000 < (↑x43.D.Tag.length : Int) then 30000 else (↑x43.D.Tag.length : Int))) ∧ ((if 30000 < (↑x43.D.Device.length : Int) then 30000 else (↑x43.D.Device.length : Int)) + (if 30000 < (↑x43.D.Tag.length : Int) then 30000 else (↑x43.D.Tag.length : Int))) ≤ IntKind.max .i64), ((.int .i64 ((if 30000 < (↑x43.D.Device.length : Int) then 30000 else (↑x43.D.Device.length : Int)) + (if 30000 < (↑x43.D.Tag.length : Int) then 30000 else (↑x43.D.Tag.length : Int))) : AV) = .int .i64 y46), (IntKind.min .i64 ≤ (y46 + (if 30000 < (↑x43.D.Plate.length : Int) then 30000 else (↑x43.D.Plate.length : Int))) ∧ (y46 + (if 30000 < (↑x43.D.Plate.length : Int) then 30000 else (↑x43.D.Plate.length : Int))) ≤ IntKind.max .i64), ((.int .i64 (y46 + (if 30000 < (↑x43.D.Plate.length : Int) then 30000 else (↑x43.D.Plate.length : Int))) : AV) = .int .i64 y49), (IntKind.min .i64 ≤ (v3 + y49) ∧ (v3 + y49) ≤ IntKind.max .i64), (IntKind.min .i64 ≤ ((↑k87 : Int) + 1) ∧ ((↑k87 : Int) + 1) ≤ IntKind.max .i64)]) (by kernel_rfl) (by kernel_rfl) ⟨(decide_eq_true c42), ⟨rfl, get_lt h44⟩, (fl_ne (f := Tapi_Reject.enc) (z := 7) (fun _ => rfl) h44), (fl_sub0 (f := Tapi_Reject.enc) (z := 8) (j := k87) (fun _ => rfl) h44 rfl), h45, (congrArg _ (Option.some.inj h47)), h48, (congrArg _ (Option.some.inj h50)), h51, ok1 h52⟩
theorem tollwaylaw49_great_L30_1 (s_0 : Tapi_State) (v3 : Int) (k87 : Nat) (c42 : ¬ ((↑k87 : Int) < (↑s_0.Rejects.length : Int))) : Does Try.prog G0 1 (bodyAt Try.prog 12 [1, 1, 1, 1, 0, 1, 0, 0]) (tollwaylaw49_great_L30_H s_0 (v3, k87)) (.exit 2) (S 233 [(1, .ptr 0 0), (3, .int .i64 v3)] [{ c := (Tapi_State.enc s_0), e := 64, ext := false, fz := 0, pl := true, o := false }]) :=
  Does.of_viewM 1 400 [.op none .a, .br false] [0] (ps := [((decide ((↑k87 : Int) < (↑s_0.Rejects.length : Int))) = false)]) (by kernel_rfl) (by kernel_rfl) (ok1 (decide_eq_false c42))
def tollwaylaw49_great_L30_X (s_0 : Tapi_State) : Int → AEx := fun o => (.exit 2)
def tollwaylaw49_great_L30_E (s_0 : Tapi_State) : Int → St := fun o => S 233 [(1, .ptr 0 0), (3, .int .i64 o)] [{ c := (Tapi_State.enc s_0), e := 64, ext := false, fz := 0, pl := true, o := false }]
theorem tollwaylaw49_great_L30_does (s_0 : Tapi_State) {s : (Int × Nat)} {r : Int} (h : lp (tollwaylaw49_great_L30_step s_0) s = some r) : Does Try.prog G0 1 (.loop (bodyAt Try.prog 12 [1, 1, 1, 1, 0, 1, 0, 0])) (tollwaylaw49_great_L30_H s_0 s) (tollwaylaw49_great_L30_X s_0 r) (tollwaylaw49_great_L30_E s_0 r) := by
  refine Does.lp (H := tollwaylaw49_great_L30_H s_0) (X := tollwaylaw49_great_L30_X s_0) (E := tollwaylaw49_great_L30_E s_0) (fun s s2 h => ?_) (fun s r h => ?_) h
  · obtain ⟨v3, k87⟩ := s
    unfold tollwaylaw49_great_L30_step at h
    try dsimp only at h
    rcases ite_some h with ⟨c42, h⟩ | ⟨c42, h⟩
    · obtain ⟨x43, h44, h⟩ := bind_some h
      obtain ⟨h45, h⟩ := guard_some h
      obtain ⟨y46, h47, h⟩ := bind_some h
      obtain ⟨h48, h⟩ := guard_some h
      obtain ⟨y49, h50, h⟩ := bind_some h
      obtain ⟨h51, h⟩ := guard_some h
      obtain ⟨h52, h⟩ := guard_some h
      simp only [Option.some.injEq, Sum.inl.injEq] at h
      subst h
      exact tollwaylaw49_great_L30_0 s_0 v3 k87 c42 x43 h44 h45 y46 h47 h48 y49 h50 h51 h52
    · simp at h
  · obtain ⟨v3, k87⟩ := s
    unfold tollwaylaw49_great_L30_step at h
    try dsimp only at h
    rcases ite_some h with ⟨c42, h⟩ | ⟨c42, h⟩
    · obtain ⟨x43, h44, h⟩ := bind_some h
      obtain ⟨h45, h⟩ := guard_some h
      obtain ⟨y46, h47, h⟩ := bind_some h
      obtain ⟨h48, h⟩ := guard_some h
      obtain ⟨y49, h50, h⟩ := bind_some h
      obtain ⟨h51, h⟩ := guard_some h
      obtain ⟨h52, h⟩ := guard_some h
      simp at h
    · simp only [Option.some.injEq, Sum.inr.injEq] at h
      subst h
      exact ⟨tollwaylaw49_great_L30_1 s_0 v3 k87 c42, by intro q; cases q⟩
noncomputable def tollwaylaw49_great_L53_step (s_0 : Tapi_State) : (Int × Nat) → Option ((Int × Nat) ⊕ Int)
  | (v3, k114) =>
    if (↑k114 : Int) < (↑s_0.Parked.length : Int) then
      (s_0.Parked[k114]?).bind fun x63 =>
      if InR .i64 ((if 30000 < (↑x63.Zone.length : Int) then 30000 else (↑x63.Zone.length : Int)) + (if 30000 < (↑x63.Plate.length : Int) then 30000 else (↑x63.Plate.length : Int))) then
        (some ((if 30000 < (↑x63.Zone.length : Int) then 30000 else (↑x63.Zone.length : Int)) + (if 30000 < (↑x63.Plate.length : Int) then 30000 else (↑x63.Plate.length : Int)))).bind fun y66 =>
        if InR .i64 (v3 + y66) then
          if InR .i64 ((↑k114 : Int) + 1) then
            some (Sum.inl ((v3 + y66), (k114 + 1)))
          else none
        else none
      else none
    else
      some (Sum.inr v3)
def tollwaylaw49_great_L53_H (s_0 : Tapi_State) : (Int × Nat) → St := fun (s : (Int × Nat)) => S 233 [(1, .ptr 0 0), (3, .int .i64 s.1), (112, .lst (fl Tapi_Parked.enc s_0.Parked) s_0.Parked.length), (113, .int .i64 (↑s_0.Parked.length : Int)), (114, .int .i64 (↑s.2 : Int))] [{ c := (Tapi_State.enc s_0), e := 64, ext := false, fz := 0, pl := true, o := false }]
theorem tollwaylaw49_great_L53_0 (s_0 : Tapi_State) (v3 : Int) (k114 : Nat) (c62 : (↑k114 : Int) < (↑s_0.Parked.length : Int)) (x63 : Tapi_Parked) (h64 : s_0.Parked[k114]? = some x63) (h65 : InR .i64 ((if 30000 < (↑x63.Zone.length : Int) then 30000 else (↑x63.Zone.length : Int)) + (if 30000 < (↑x63.Plate.length : Int) then 30000 else (↑x63.Plate.length : Int)))) (y66 : Int) (h67 : some ((if 30000 < (↑x63.Zone.length : Int) then 30000 else (↑x63.Zone.length : Int)) + (if 30000 < (↑x63.Plate.length : Int) then 30000 else (↑x63.Plate.length : Int))) = some y66) (h68 : InR .i64 (v3 + y66)) (h69 : InR .i64 ((↑k114 : Int) + 1)) : Does Try.prog G0 1 (bodyAt Try.prog 12 [1, 1, 1, 1, 1, 0, 1, 0, 0]) (tollwaylaw49_great_L53_H s_0 (v3, k114)) .normal (S 233 [(1, .ptr 0 0), (3, .int .i64 (v3 + y66)), (112, .lst (fl Tapi_Parked.enc s_0.Parked) s_0.Parked.length), (113, .int .i64 (↑s_0.Parked.length : Int)), (114, .int .i64 ((↑k114 : Int) + 1))] [{ c := (Tapi_State.enc s_0), e := 64, ext := false, fz := 0, pl := true, o := false }]) :=
  Does.of_viewM 1 400 ((.op none .a) :: (.br true) :: (.op none (.i k114)) :: (.op none (.v [.int .i64 x63.Kind, .str x63.Zone, .str x63.Plate, .int .i64 x63.Time, .int .i64 x63.Until])) :: (cs 6 ((.op none .a) :: (cs 3 [.op none .a, .op none .w, .tr (.eqt (.t 127) (.int .i64 y66)), .op none .w, .op none .c, .op none .w, .op none .c])))) [0] (ps := [((decide ((↑k114 : Int) < (↑s_0.Parked.length : Int))) = true), ((↑k114 : Int) = ((k114 : Nat) : Int) ∧ k114 < s_0.Parked.length), ((fl Tapi_Parked.enc s_0.Parked) ≠ []), (sub (fl Tapi_Parked.enc s_0.Parked) (k114 * 5) 5 = [.int .i64 x63.Kind, .str x63.Zone, .str x63.Plate, .int .i64 x63.Time, .int .i64 x63.Until]), (IntKind.min .i64 ≤ ((if 30000 < (↑x63.Zone.length : Int) then 30000 else (↑x63.Zone.length : Int)) + (if 30000 < (↑x63.Plate.length : Int) then 30000 else (↑x63.Plate.length : Int))) ∧ ((if 30000 < (↑x63.Zone.length : Int) then 30000 else (↑x63.Zone.length : Int)) + (if 30000 < (↑x63.Plate.length : Int) then 30000 else (↑x63.Plate.length : Int))) ≤ IntKind.max .i64), ((.int .i64 ((if 30000 < (↑x63.Zone.length : Int) then 30000 else (↑x63.Zone.length : Int)) + (if 30000 < (↑x63.Plate.length : Int) then 30000 else (↑x63.Plate.length : Int))) : AV) = .int .i64 y66), (IntKind.min .i64 ≤ (v3 + y66) ∧ (v3 + y66) ≤ IntKind.max .i64), (IntKind.min .i64 ≤ ((↑k114 : Int) + 1) ∧ ((↑k114 : Int) + 1) ≤ IntKind.max .i64)]) (by kernel_rfl) (by kernel_rfl) ⟨(decide_eq_true c62), ⟨rfl, get_lt h64⟩, (fl_ne (f := Tapi_Parked.enc) (z := 4) (fun _ => rfl) h64), (fl_sub0 (f := Tapi_Parked.enc) (z := 5) (j := k114) (fun _ => rfl) h64 rfl), h65, (congrArg _ (Option.some.inj h67)), h68, ok1 h69⟩
theorem tollwaylaw49_great_L53_1 (s_0 : Tapi_State) (v3 : Int) (k114 : Nat) (c62 : ¬ ((↑k114 : Int) < (↑s_0.Parked.length : Int))) : Does Try.prog G0 1 (bodyAt Try.prog 12 [1, 1, 1, 1, 1, 0, 1, 0, 0]) (tollwaylaw49_great_L53_H s_0 (v3, k114)) (.exit 4) (S 233 [(1, .ptr 0 0), (3, .int .i64 v3)] [{ c := (Tapi_State.enc s_0), e := 64, ext := false, fz := 0, pl := true, o := false }]) :=
  Does.of_viewM 1 400 [.op none .a, .br false] [0] (ps := [((decide ((↑k114 : Int) < (↑s_0.Parked.length : Int))) = false)]) (by kernel_rfl) (by kernel_rfl) (ok1 (decide_eq_false c62))
def tollwaylaw49_great_L53_X (s_0 : Tapi_State) : Int → AEx := fun o => (.exit 4)
def tollwaylaw49_great_L53_E (s_0 : Tapi_State) : Int → St := fun o => S 233 [(1, .ptr 0 0), (3, .int .i64 o)] [{ c := (Tapi_State.enc s_0), e := 64, ext := false, fz := 0, pl := true, o := false }]
theorem tollwaylaw49_great_L53_does (s_0 : Tapi_State) {s : (Int × Nat)} {r : Int} (h : lp (tollwaylaw49_great_L53_step s_0) s = some r) : Does Try.prog G0 1 (.loop (bodyAt Try.prog 12 [1, 1, 1, 1, 1, 0, 1, 0, 0])) (tollwaylaw49_great_L53_H s_0 s) (tollwaylaw49_great_L53_X s_0 r) (tollwaylaw49_great_L53_E s_0 r) := by
  refine Does.lp (H := tollwaylaw49_great_L53_H s_0) (X := tollwaylaw49_great_L53_X s_0) (E := tollwaylaw49_great_L53_E s_0) (fun s s2 h => ?_) (fun s r h => ?_) h
  · obtain ⟨v3, k114⟩ := s
    unfold tollwaylaw49_great_L53_step at h
    try dsimp only at h
    rcases ite_some h with ⟨c62, h⟩ | ⟨c62, h⟩
    · obtain ⟨x63, h64, h⟩ := bind_some h
      obtain ⟨h65, h⟩ := guard_some h
      obtain ⟨y66, h67, h⟩ := bind_some h
      obtain ⟨h68, h⟩ := guard_some h
      obtain ⟨h69, h⟩ := guard_some h
      simp only [Option.some.injEq, Sum.inl.injEq] at h
      subst h
      exact tollwaylaw49_great_L53_0 s_0 v3 k114 c62 x63 h64 h65 y66 h67 h68 h69
    · simp at h
  · obtain ⟨v3, k114⟩ := s
    unfold tollwaylaw49_great_L53_step at h
    try dsimp only at h
    rcases ite_some h with ⟨c62, h⟩ | ⟨c62, h⟩
    · obtain ⟨x63, h64, h⟩ := bind_some h
      obtain ⟨h65, h⟩ := guard_some h
      obtain ⟨y66, h67, h⟩ := bind_some h
      obtain ⟨h68, h⟩ := guard_some h
      obtain ⟨h69, h⟩ := guard_some h
      simp at h
    · simp only [Option.some.injEq, Sum.inr.injEq] at h
      subst h
      exact ⟨tollwaylaw49_great_L53_1 s_0 v3 k114 c62, by intro q; cases q⟩
noncomputable def tollwaylaw49_great_L101_step (s_0 : Tapi_State) (v3 : Int) (k135 : Nat) (x95 : Tapi_Entry) : (Int × Nat) → Option ((Int × Nat) ⊕ Int)
  | (v3, k152) =>
    if (↑k152 : Int) < (↑x95.Posts.length : Int) then
      (x95.Posts[k152]?).bind fun x110 =>
      if InR .i64 (v3 + (if 30000 < (↑x110.Account.length : Int) then 30000 else (↑x110.Account.length : Int))) then
        (some (v3 + (if 30000 < (↑x110.Account.length : Int) then 30000 else (↑x110.Account.length : Int)))).bind fun y113 =>
        if InR .i64 ((↑k152 : Int) + 1) then
          some (Sum.inl (y113, (k152 + 1)))
        else none
      else none
    else
      some (Sum.inr v3)
def tollwaylaw49_great_L101_H (s_0 : Tapi_State) (v3 : Int) (k135 : Nat) (x95 : Tapi_Entry) : (Int × Nat) → St := fun (s : (Int × Nat)) => S 233 [(1, .ptr 0 0), (3, .int .i64 s.1), (133, .lst (fl Tapi_Entry.enc s_0.Books.Ledger.Entries) s_0.Books.Ledger.Entries.length), (134, .int .i64 (↑s_0.Books.Ledger.Entries.length : Int)), (135, .int .i64 (↑k135 : Int)), (150, .lst (fl Tapi_Post.enc x95.Posts) x95.Posts.length), (151, .int .i64 (↑x95.Posts.length : Int)), (152, .int .i64 (↑s.2 : Int))] [{ c := (Tapi_State.enc s_0), e := 64, ext := false, fz := 0, pl := true, o := false }]
theorem tollwaylaw49_great_L101_0 (s_0 : Tapi_State) (v3 : Int) (k135 : Nat) (x95 : Tapi_Entry) (v3 : Int) (k152 : Nat) (c109 : (↑k152 : Int) < (↑x95.Posts.length : Int)) (x110 : Tapi_Post) (h111 : x95.Posts[k152]? = some x110) (h112 : InR .i64 (v3 + (if 30000 < (↑x110.Account.length : Int) then 30000 else (↑x110.Account.length : Int)))) (y113 : Int) (h114 : some (v3 + (if 30000 < (↑x110.Account.length : Int) then 30000 else (↑x110.Account.length : Int))) = some y113) (h115 : InR .i64 ((↑k152 : Int) + 1)) : Does Try.prog G0 1 (bodyAt Try.prog 12 [1, 1, 1, 1, 1, 1, 0, 1, 0, 0, 1, 1, 0, 0, 1, 1, 1, 1, 0, 0]) (tollwaylaw49_great_L101_H s_0 v3 k135 x95 (v3, k152)) .normal (S 233 [(1, .ptr 0 0), (3, .int .i64 y113), (133, .lst (fl Tapi_Entry.enc s_0.Books.Ledger.Entries) s_0.Books.Ledger.Entries.length), (134, .int .i64 (↑s_0.Books.Ledger.Entries.length : Int)), (135, .int .i64 (↑k135 : Int)), (150, .lst (fl Tapi_Post.enc x95.Posts) x95.Posts.length), (151, .int .i64 (↑x95.Posts.length : Int)), (152, .int .i64 ((↑k152 : Int) + 1))] [{ c := (Tapi_State.enc s_0), e := 64, ext := false, fz := 0, pl := true, o := false }]) :=
  Does.of_viewM 1 400 ((.op none .a) :: (.br true) :: (.op none (.i k152)) :: (.op none (.v [.str x110.Account, .int .i64 x110.Cents])) :: (cs 6 [.op none .a, .op none .w, .tr (.eqt (.t 161) (.int .i64 y113)), .op none .c, .op none .w, .op none .c])) [0] (ps := [((decide ((↑k152 : Int) < (↑x95.Posts.length : Int))) = true), ((↑k152 : Int) = ((k152 : Nat) : Int) ∧ k152 < x95.Posts.length), ((fl Tapi_Post.enc x95.Posts) ≠ []), (sub (fl Tapi_Post.enc x95.Posts) (k152 * 2) 2 = [.str x110.Account, .int .i64 x110.Cents]), (IntKind.min .i64 ≤ (v3 + (if 30000 < (↑x110.Account.length : Int) then 30000 else (↑x110.Account.length : Int))) ∧ (v3 + (if 30000 < (↑x110.Account.length : Int) then 30000 else (↑x110.Account.length : Int))) ≤ IntKind.max .i64), ((.int .i64 (v3 + (if 30000 < (↑x110.Account.length : Int) then 30000 else (↑x110.Account.length : Int))) : AV) = .int .i64 y113), (IntKind.min .i64 ≤ ((↑k152 : Int) + 1) ∧ ((↑k152 : Int) + 1) ≤ IntKind.max .i64)]) (by kernel_rfl) (by kernel_rfl) ⟨(decide_eq_true c109), ⟨rfl, get_lt h111⟩, (fl_ne (f := Tapi_Post.enc) (z := 1) (fun _ => rfl) h111), (fl_sub0 (f := Tapi_Post.enc) (z := 2) (j := k152) (fun _ => rfl) h111 rfl), h112, (congrArg _ (Option.some.inj h114)), ok1 h115⟩
theorem tollwaylaw49_great_L101_1 (s_0 : Tapi_State) (v3 : Int) (k135 : Nat) (x95 : Tapi_Entry) (v3 : Int) (k152 : Nat) (c109 : ¬ ((↑k152 : Int) < (↑x95.Posts.length : Int))) : Does Try.prog G0 1 (bodyAt Try.prog 12 [1, 1, 1, 1, 1, 1, 0, 1, 0, 0, 1, 1, 0, 0, 1, 1, 1, 1, 0, 0]) (tollwaylaw49_great_L101_H s_0 v3 k135 x95 (v3, k152)) (.exit 8) (S 233 [(1, .ptr 0 0), (3, .int .i64 v3), (133, .lst (fl Tapi_Entry.enc s_0.Books.Ledger.Entries) s_0.Books.Ledger.Entries.length), (134, .int .i64 (↑s_0.Books.Ledger.Entries.length : Int)), (135, .int .i64 (↑k135 : Int))] [{ c := (Tapi_State.enc s_0), e := 64, ext := false, fz := 0, pl := true, o := false }]) :=
  Does.of_viewM 1 400 [.op none .a, .br false] [0] (ps := [((decide ((↑k152 : Int) < (↑x95.Posts.length : Int))) = false)]) (by kernel_rfl) (by kernel_rfl) (ok1 (decide_eq_false c109))
def tollwaylaw49_great_L101_X (s_0 : Tapi_State) (v3 : Int) (k135 : Nat) (x95 : Tapi_Entry) : Int → AEx := fun o => (.exit 8)
def tollwaylaw49_great_L101_E (s_0 : Tapi_State) (v3 : Int) (k135 : Nat) (x95 : Tapi_Entry) : Int → St := fun o => S 233 [(1, .ptr 0 0), (3, .int .i64 o), (133, .lst (fl Tapi_Entry.enc s_0.Books.Ledger.Entries) s_0.Books.Ledger.Entries.length), (134, .int .i64 (↑s_0.Books.Ledger.Entries.length : Int)), (135, .int .i64 (↑k135 : Int))] [{ c := (Tapi_State.enc s_0), e := 64, ext := false, fz := 0, pl := true, o := false }]
theorem tollwaylaw49_great_L101_does (s_0 : Tapi_State) (v3 : Int) (k135 : Nat) (x95 : Tapi_Entry) {s : (Int × Nat)} {r : Int} (h : lp (tollwaylaw49_great_L101_step s_0 v3 k135 x95) s = some r) : Does Try.prog G0 1 (.loop (bodyAt Try.prog 12 [1, 1, 1, 1, 1, 1, 0, 1, 0, 0, 1, 1, 0, 0, 1, 1, 1, 1, 0, 0])) (tollwaylaw49_great_L101_H s_0 v3 k135 x95 s) (tollwaylaw49_great_L101_X s_0 v3 k135 x95 r) (tollwaylaw49_great_L101_E s_0 v3 k135 x95 r) := by
  refine Does.lp (H := tollwaylaw49_great_L101_H s_0 v3 k135 x95) (X := tollwaylaw49_great_L101_X s_0 v3 k135 x95) (E := tollwaylaw49_great_L101_E s_0 v3 k135 x95) (fun s s2 h => ?_) (fun s r h => ?_) h
  · obtain ⟨v3, k152⟩ := s
    unfold tollwaylaw49_great_L101_step at h
    try dsimp only at h
    rcases ite_some h with ⟨c109, h⟩ | ⟨c109, h⟩
    · obtain ⟨x110, h111, h⟩ := bind_some h
      obtain ⟨h112, h⟩ := guard_some h
      obtain ⟨y113, h114, h⟩ := bind_some h
      obtain ⟨h115, h⟩ := guard_some h
      simp only [Option.some.injEq, Sum.inl.injEq] at h
      subst h
      exact tollwaylaw49_great_L101_0 s_0 v3 k135 x95 v3 k152 c109 x110 h111 h112 y113 h114 h115
    · simp at h
  · obtain ⟨v3, k152⟩ := s
    unfold tollwaylaw49_great_L101_step at h
    try dsimp only at h
    rcases ite_some h with ⟨c109, h⟩ | ⟨c109, h⟩
    · obtain ⟨x110, h111, h⟩ := bind_some h
      obtain ⟨h112, h⟩ := guard_some h
      obtain ⟨y113, h114, h⟩ := bind_some h
      obtain ⟨h115, h⟩ := guard_some h
      simp at h
    · simp only [Option.some.injEq, Sum.inr.injEq] at h
      subst h
      exact ⟨tollwaylaw49_great_L101_1 s_0 v3 k135 x95 v3 k152 c109, by intro q; cases q⟩
noncomputable def tollwaylaw49_great_L70_step (s_0 : Tapi_State) : (Int × Nat) → Option ((Int × Nat) ⊕ (Unit ⊕ Int))
  | (v3, k135) =>
    if (↑k135 : Int) < (↑s_0.Books.Ledger.Entries.length : Int) then
      (s_0.Books.Ledger.Entries[k135]?).bind fun x95 =>
      if (↑x95.Posts.length : Int) > (30 : Int) then
        some (Sum.inr (Sum.inl ()))
      else
        if InR .i64 (v3 + (if 30000 < (↑x95.Key.length : Int) then 30000 else (↑x95.Key.length : Int))) then
          (some (v3 + (if 30000 < (↑x95.Key.length : Int) then 30000 else (↑x95.Key.length : Int)))).bind fun y99 =>
          (lp (tollwaylaw49_great_L101_step s_0 v3 k135 x95) (y99, (0 : Nat))).bind fun o101 =>
          if InR .i64 ((↑k135 : Int) + 1) then
            some (Sum.inl (o101, (k135 + 1)))
          else none
        else none
    else
      some (Sum.inr (Sum.inr (v3)))
def tollwaylaw49_great_L70_H (s_0 : Tapi_State) : (Int × Nat) → St := fun (s : (Int × Nat)) => S 233 [(1, .ptr 0 0), (3, .int .i64 s.1), (133, .lst (fl Tapi_Entry.enc s_0.Books.Ledger.Entries) s_0.Books.Ledger.Entries.length), (134, .int .i64 (↑s_0.Books.Ledger.Entries.length : Int)), (135, .int .i64 (↑s.2 : Int))] [{ c := (Tapi_State.enc s_0), e := 64, ext := false, fz := 0, pl := true, o := false }]
theorem tollwaylaw49_great_L70_0 (s_0 : Tapi_State) (v3 : Int) (k135 : Nat) (c94 : (↑k135 : Int) < (↑s_0.Books.Ledger.Entries.length : Int)) (x95 : Tapi_Entry) (h96 : s_0.Books.Ledger.Entries[k135]? = some x95) (c97 : (↑x95.Posts.length : Int) > (30 : Int)) : Does Try.prog G0 1 (bodyAt Try.prog 12 [1, 1, 1, 1, 1, 1, 0, 1, 0, 0]) (tollwaylaw49_great_L70_H s_0 (v3, k135)) .ret (S 233 [(2, .bool true)] [{ c := (Tapi_State.enc s_0), e := 64, ext := false, fz := 0, pl := true, o := false }]) :=
  Does.of_viewM 1 400 ((.op none .a) :: (.br true) :: (.op none (.i k135)) :: (.op none (.v [.str x95.Key, .int .i64 x95.Time, .lst (fl Tapi_Post.enc x95.Posts) x95.Posts.length])) :: (cs 5 [.op none .a, .br true, .op none .c])) [0] (ps := [((decide ((↑k135 : Int) < (↑s_0.Books.Ledger.Entries.length : Int))) = true), ((↑k135 : Int) = ((k135 : Nat) : Int) ∧ k135 < s_0.Books.Ledger.Entries.length), ((fl Tapi_Entry.enc s_0.Books.Ledger.Entries) ≠ []), (sub (fl Tapi_Entry.enc s_0.Books.Ledger.Entries) (k135 * 3) 3 = [.str x95.Key, .int .i64 x95.Time, .lst (fl Tapi_Post.enc x95.Posts) x95.Posts.length]), ((decide ((↑x95.Posts.length : Int) > (30 : Int))) = true)]) (by kernel_rfl) (by kernel_rfl) ⟨(decide_eq_true c94), ⟨rfl, get_lt h96⟩, (fl_ne (f := Tapi_Entry.enc) (z := 2) (fun _ => rfl) h96), (fl_sub0 (f := Tapi_Entry.enc) (z := 3) (j := k135) (fun _ => rfl) h96 rfl), ok1 (decide_eq_true c97)⟩
theorem tollwaylaw49_great_L70_1 (s_0 : Tapi_State) (v3 : Int) (k135 : Nat) (c94 : (↑k135 : Int) < (↑s_0.Books.Ledger.Entries.length : Int)) (x95 : Tapi_Entry) (h96 : s_0.Books.Ledger.Entries[k135]? = some x95) (c97 : ¬ ((↑x95.Posts.length : Int) > (30 : Int))) (h98 : InR .i64 (v3 + (if 30000 < (↑x95.Key.length : Int) then 30000 else (↑x95.Key.length : Int)))) (y99 : Int) (h100 : some (v3 + (if 30000 < (↑x95.Key.length : Int) then 30000 else (↑x95.Key.length : Int))) = some y99) (o101 : Int) (hl101 : lp (tollwaylaw49_great_L101_step s_0 v3 k135 x95) (y99, (0 : Nat)) = some o101) (h116 : InR .i64 ((↑k135 : Int) + 1)) : Does Try.prog G0 1 (bodyAt Try.prog 12 [1, 1, 1, 1, 1, 1, 0, 1, 0, 0]) (tollwaylaw49_great_L70_H s_0 (v3, k135)) .normal (S 233 [(1, .ptr 0 0), (3, .int .i64 o101), (133, .lst (fl Tapi_Entry.enc s_0.Books.Ledger.Entries) s_0.Books.Ledger.Entries.length), (134, .int .i64 (↑s_0.Books.Ledger.Entries.length : Int)), (135, .int .i64 ((↑k135 : Int) + 1))] [{ c := (Tapi_State.enc s_0), e := 64, ext := false, fz := 0, pl := true, o := false }]) :=
  Does.of_viewM 1 400 ((.op none .a) :: (.br true) :: (.op none (.i k135)) :: (.op none (.v [.str x95.Key, .int .i64 x95.Time, .lst (fl Tapi_Post.enc x95.Posts) x95.Posts.length])) :: (cs 5 ((.op none .a) :: (.br false) :: (cs 4 ((.op none .a) :: (.op none .w) :: (.tr (.eqt (.t 148) (.int .i64 y99))) :: (cs 5 [.fcut 1 (.exit 8) [(1, .ptr 0 0), (3, .int .i64 o101), (133, .lst (fl Tapi_Entry.enc s_0.Books.Ledger.Entries) s_0.Books.Ledger.Entries.length), (134, .int .i64 (↑s_0.Books.Ledger.Entries.length : Int)), (135, .int .i64 (↑k135 : Int))] [{ c := (Tapi_State.enc s_0), e := 64, ext := false, fz := 0, pl := true, o := false }] [0] [(1, .ptr 0 0), (3, .int .i64 y99), (133, .lst (fl Tapi_Entry.enc s_0.Books.Ledger.Entries) s_0.Books.Ledger.Entries.length), (134, .int .i64 (↑s_0.Books.Ledger.Entries.length : Int)), (135, .int .i64 (↑k135 : Int)), (150, .lst (fl Tapi_Post.enc x95.Posts) x95.Posts.length), (151, .int .i64 (↑x95.Posts.length : Int)), (152, .int .i64 (↑(0 : Nat) : Int))] [{ c := (Tapi_State.enc s_0), e := 64, ext := false, fz := 0, pl := true, o := false }], .op none .w, .op none .c])))))) [0] (ps := [((decide ((↑k135 : Int) < (↑s_0.Books.Ledger.Entries.length : Int))) = true), ((↑k135 : Int) = ((k135 : Nat) : Int) ∧ k135 < s_0.Books.Ledger.Entries.length), ((fl Tapi_Entry.enc s_0.Books.Ledger.Entries) ≠ []), (sub (fl Tapi_Entry.enc s_0.Books.Ledger.Entries) (k135 * 3) 3 = [.str x95.Key, .int .i64 x95.Time, .lst (fl Tapi_Post.enc x95.Posts) x95.Posts.length]), ((decide ((↑x95.Posts.length : Int) > (30 : Int))) = false), (IntKind.min .i64 ≤ (v3 + (if 30000 < (↑x95.Key.length : Int) then 30000 else (↑x95.Key.length : Int))) ∧ (v3 + (if 30000 < (↑x95.Key.length : Int) then 30000 else (↑x95.Key.length : Int))) ≤ IntKind.max .i64), ((.int .i64 (v3 + (if 30000 < (↑x95.Key.length : Int) then 30000 else (↑x95.Key.length : Int))) : AV) = .int .i64 y99), ((.ptr 0 0 : AV) = .ptr 0 0), ((.int .i64 y99 : AV) = .int .i64 y99), ((.lst (fl Tapi_Entry.enc s_0.Books.Ledger.Entries) s_0.Books.Ledger.Entries.length : AV) = .lst (fl Tapi_Entry.enc s_0.Books.Ledger.Entries) s_0.Books.Ledger.Entries.length), ((.int .i64 (↑s_0.Books.Ledger.Entries.length : Int) : AV) = .int .i64 (↑s_0.Books.Ledger.Entries.length : Int)), ((.int .i64 (↑k135 : Int) : AV) = .int .i64 (↑k135 : Int)), ((.lst (fl Tapi_Post.enc x95.Posts) x95.Posts.length : AV) = .lst (fl Tapi_Post.enc x95.Posts) x95.Posts.length), ((.int .i64 (↑x95.Posts.length : Int) : AV) = .int .i64 (↑x95.Posts.length : Int)), ((.int .i64 0 : AV) = .int .i64 (↑(0 : Nat) : Int)), (({ c := (Tapi_State.enc s_0), e := 64, ext := false, fz := 0, pl := true, o := false } : Blk) = renB [0] { c := (Tapi_State.enc s_0), e := 64, ext := false, fz := 0, pl := true, o := false }), (Does Try.prog G0 1 (.loop (bodyAt Try.prog 12 [1, 1, 1, 1, 1, 1, 0, 1, 0, 0, 1, 1, 0, 0, 1, 1, 1, 1, 0, 0])) (S 233 [(1, .ptr 0 0), (3, .int .i64 y99), (133, .lst (fl Tapi_Entry.enc s_0.Books.Ledger.Entries) s_0.Books.Ledger.Entries.length), (134, .int .i64 (↑s_0.Books.Ledger.Entries.length : Int)), (135, .int .i64 (↑k135 : Int)), (150, .lst (fl Tapi_Post.enc x95.Posts) x95.Posts.length), (151, .int .i64 (↑x95.Posts.length : Int)), (152, .int .i64 (↑(0 : Nat) : Int))] [{ c := (Tapi_State.enc s_0), e := 64, ext := false, fz := 0, pl := true, o := false }]) (.exit 8) (S 233 [(1, .ptr 0 0), (3, .int .i64 o101), (133, .lst (fl Tapi_Entry.enc s_0.Books.Ledger.Entries) s_0.Books.Ledger.Entries.length), (134, .int .i64 (↑s_0.Books.Ledger.Entries.length : Int)), (135, .int .i64 (↑k135 : Int))] [{ c := (Tapi_State.enc s_0), e := 64, ext := false, fz := 0, pl := true, o := false }])), (IntKind.min .i64 ≤ ((↑k135 : Int) + 1) ∧ ((↑k135 : Int) + 1) ≤ IntKind.max .i64)]) (by kernel_rfl) (by kernel_rfl) ⟨(decide_eq_true c94), ⟨rfl, get_lt h96⟩, (fl_ne (f := Tapi_Entry.enc) (z := 2) (fun _ => rfl) h96), (fl_sub0 (f := Tapi_Entry.enc) (z := 3) (j := k135) (fun _ => rfl) h96 rfl), (decide_eq_false c97), h98, (congrArg _ (Option.some.inj h100)), rfl, rfl, rfl, rfl, rfl, rfl, rfl, rfl, rfl, (tollwaylaw49_great_L101_does s_0 v3 k135 x95 hl101), ok1 h116⟩
theorem tollwaylaw49_great_L70_2 (s_0 : Tapi_State) (v3 : Int) (k135 : Nat) (c94 : ¬ ((↑k135 : Int) < (↑s_0.Books.Ledger.Entries.length : Int))) : Does Try.prog G0 1 (bodyAt Try.prog 12 [1, 1, 1, 1, 1, 1, 0, 1, 0, 0]) (tollwaylaw49_great_L70_H s_0 (v3, k135)) (.exit 6) (S 233 [(1, .ptr 0 0), (3, .int .i64 v3)] [{ c := (Tapi_State.enc s_0), e := 64, ext := false, fz := 0, pl := true, o := false }]) :=
  Does.of_viewM 1 400 [.op none .a, .br false] [0] (ps := [((decide ((↑k135 : Int) < (↑s_0.Books.Ledger.Entries.length : Int))) = false)]) (by kernel_rfl) (by kernel_rfl) (ok1 (decide_eq_false c94))
def tollwaylaw49_great_L70_X (s_0 : Tapi_State) : (Unit ⊕ Int) → AEx := fun q => match q with | Sum.inl o => .ret | Sum.inr (o) => (.exit 6)
def tollwaylaw49_great_L70_E (s_0 : Tapi_State) : (Unit ⊕ Int) → St := fun q => match q with | Sum.inl o => S 233 [(2, .bool true)] [{ c := (Tapi_State.enc s_0), e := 64, ext := false, fz := 0, pl := true, o := false }] | Sum.inr (o) => S 233 [(1, .ptr 0 0), (3, .int .i64 o)] [{ c := (Tapi_State.enc s_0), e := 64, ext := false, fz := 0, pl := true, o := false }]
theorem tollwaylaw49_great_L70_does (s_0 : Tapi_State) {s : (Int × Nat)} {r : Unit ⊕ Int} (h : lp (tollwaylaw49_great_L70_step s_0) s = some r) : Does Try.prog G0 1 (.loop (bodyAt Try.prog 12 [1, 1, 1, 1, 1, 1, 0, 1, 0, 0])) (tollwaylaw49_great_L70_H s_0 s) (tollwaylaw49_great_L70_X s_0 r) (tollwaylaw49_great_L70_E s_0 r) := by
  refine Does.lp (H := tollwaylaw49_great_L70_H s_0) (X := tollwaylaw49_great_L70_X s_0) (E := tollwaylaw49_great_L70_E s_0) (fun s s2 h => ?_) (fun s r h => ?_) h
  · obtain ⟨v3, k135⟩ := s
    unfold tollwaylaw49_great_L70_step at h
    try dsimp only at h
    rcases ite_some h with ⟨c94, h⟩ | ⟨c94, h⟩
    · obtain ⟨x95, h96, h⟩ := bind_some h
      rcases ite_some h with ⟨c97, h⟩ | ⟨c97, h⟩
      · simp at h
      · obtain ⟨h98, h⟩ := guard_some h
        obtain ⟨y99, h100, h⟩ := bind_some h
        obtain ⟨o101, hl101, h⟩ := bind_some h
        obtain ⟨h116, h⟩ := guard_some h
        simp only [Option.some.injEq, Sum.inl.injEq] at h
        subst h
        exact tollwaylaw49_great_L70_1 s_0 v3 k135 c94 x95 h96 c97 h98 y99 h100 o101 hl101 h116
    · simp at h
  · obtain ⟨v3, k135⟩ := s
    unfold tollwaylaw49_great_L70_step at h
    try dsimp only at h
    rcases ite_some h with ⟨c94, h⟩ | ⟨c94, h⟩
    · obtain ⟨x95, h96, h⟩ := bind_some h
      rcases ite_some h with ⟨c97, h⟩ | ⟨c97, h⟩
      · simp only [Option.some.injEq, Sum.inr.injEq] at h
        subst h
        exact ⟨tollwaylaw49_great_L70_0 s_0 v3 k135 c94 x95 h96 c97, by intro q; cases q⟩
      · obtain ⟨h98, h⟩ := guard_some h
        obtain ⟨y99, h100, h⟩ := bind_some h
        obtain ⟨o101, hl101, h⟩ := bind_some h
        obtain ⟨h116, h⟩ := guard_some h
        simp at h
    · simp only [Option.some.injEq, Sum.inr.injEq] at h
      subst h
      exact ⟨tollwaylaw49_great_L70_2 s_0 v3 k135 c94, by intro q; cases q⟩
noncomputable def tollwaylaw49_great_L156_step (s_0 : Tapi_State) (v3 : Int) (k168 : Nat) (x146 : Tapi_Charge) : (Int × Nat) → Option ((Int × Nat) ⊕ Int)
  | (v3, k195) =>
    if (↑k195 : Int) < (↑x146.Lines.length : Int) then
      (x146.Lines[k195]?).bind fun x165 =>
      if InR .i64 (v3 + (if 30000 < (↑x165.Text.length : Int) then 30000 else (↑x165.Text.length : Int))) then
        (some (v3 + (if 30000 < (↑x165.Text.length : Int) then 30000 else (↑x165.Text.length : Int)))).bind fun y168 =>
        if InR .i64 ((↑k195 : Int) + 1) then
          some (Sum.inl (y168, (k195 + 1)))
        else none
      else none
    else
      some (Sum.inr v3)
def tollwaylaw49_great_L156_H (s_0 : Tapi_State) (v3 : Int) (k168 : Nat) (x146 : Tapi_Charge) : (Int × Nat) → St := fun (s : (Int × Nat)) => S 233 [(1, .ptr 0 0), (3, .int .i64 s.1), (166, .lst (fl Tapi_Charge.enc s_0.Books.Done) s_0.Books.Done.length), (167, .int .i64 (↑s_0.Books.Done.length : Int)), (168, .int .i64 (↑k168 : Int)), (193, .lst (fl Tapi_Line.enc x146.Lines) x146.Lines.length), (194, .int .i64 (↑x146.Lines.length : Int)), (195, .int .i64 (↑s.2 : Int))] [{ c := (Tapi_State.enc s_0), e := 64, ext := false, fz := 0, pl := true, o := false }]
theorem tollwaylaw49_great_L156_0 (s_0 : Tapi_State) (v3 : Int) (k168 : Nat) (x146 : Tapi_Charge) (v3 : Int) (k195 : Nat) (c164 : (↑k195 : Int) < (↑x146.Lines.length : Int)) (x165 : Tapi_Line) (h166 : x146.Lines[k195]? = some x165) (h167 : InR .i64 (v3 + (if 30000 < (↑x165.Text.length : Int) then 30000 else (↑x165.Text.length : Int)))) (y168 : Int) (h169 : some (v3 + (if 30000 < (↑x165.Text.length : Int) then 30000 else (↑x165.Text.length : Int))) = some y168) (h170 : InR .i64 ((↑k195 : Int) + 1)) : Does Try.prog G0 1 (bodyAt Try.prog 12 [1, 1, 1, 1, 1, 1, 1, 0, 1, 0, 0, 1, 1, 0, 0, 1, 1, 1, 1, 0, 0]) (tollwaylaw49_great_L156_H s_0 v3 k168 x146 (v3, k195)) .normal (S 233 [(1, .ptr 0 0), (3, .int .i64 y168), (166, .lst (fl Tapi_Charge.enc s_0.Books.Done) s_0.Books.Done.length), (167, .int .i64 (↑s_0.Books.Done.length : Int)), (168, .int .i64 (↑k168 : Int)), (193, .lst (fl Tapi_Line.enc x146.Lines) x146.Lines.length), (194, .int .i64 (↑x146.Lines.length : Int)), (195, .int .i64 ((↑k195 : Int) + 1))] [{ c := (Tapi_State.enc s_0), e := 64, ext := false, fz := 0, pl := true, o := false }]) :=
  Does.of_viewM 1 400 ((.op none .a) :: (.br true) :: (.op none (.i k195)) :: (.op none (.v [.str x165.Text, .int .i64 x165.Cents])) :: (cs 6 [.op none .a, .op none .w, .tr (.eqt (.t 204) (.int .i64 y168)), .op none .c, .op none .w, .op none .c])) [0] (ps := [((decide ((↑k195 : Int) < (↑x146.Lines.length : Int))) = true), ((↑k195 : Int) = ((k195 : Nat) : Int) ∧ k195 < x146.Lines.length), ((fl Tapi_Line.enc x146.Lines) ≠ []), (sub (fl Tapi_Line.enc x146.Lines) (k195 * 2) 2 = [.str x165.Text, .int .i64 x165.Cents]), (IntKind.min .i64 ≤ (v3 + (if 30000 < (↑x165.Text.length : Int) then 30000 else (↑x165.Text.length : Int))) ∧ (v3 + (if 30000 < (↑x165.Text.length : Int) then 30000 else (↑x165.Text.length : Int))) ≤ IntKind.max .i64), ((.int .i64 (v3 + (if 30000 < (↑x165.Text.length : Int) then 30000 else (↑x165.Text.length : Int))) : AV) = .int .i64 y168), (IntKind.min .i64 ≤ ((↑k195 : Int) + 1) ∧ ((↑k195 : Int) + 1) ≤ IntKind.max .i64)]) (by kernel_rfl) (by kernel_rfl) ⟨(decide_eq_true c164), ⟨rfl, get_lt h166⟩, (fl_ne (f := Tapi_Line.enc) (z := 1) (fun _ => rfl) h166), (fl_sub0 (f := Tapi_Line.enc) (z := 2) (j := k195) (fun _ => rfl) h166 rfl), h167, (congrArg _ (Option.some.inj h169)), ok1 h170⟩
theorem tollwaylaw49_great_L156_1 (s_0 : Tapi_State) (v3 : Int) (k168 : Nat) (x146 : Tapi_Charge) (v3 : Int) (k195 : Nat) (c164 : ¬ ((↑k195 : Int) < (↑x146.Lines.length : Int))) : Does Try.prog G0 1 (bodyAt Try.prog 12 [1, 1, 1, 1, 1, 1, 1, 0, 1, 0, 0, 1, 1, 0, 0, 1, 1, 1, 1, 0, 0]) (tollwaylaw49_great_L156_H s_0 v3 k168 x146 (v3, k195)) (.exit 12) (S 233 [(1, .ptr 0 0), (3, .int .i64 v3), (166, .lst (fl Tapi_Charge.enc s_0.Books.Done) s_0.Books.Done.length), (167, .int .i64 (↑s_0.Books.Done.length : Int)), (168, .int .i64 (↑k168 : Int))] [{ c := (Tapi_State.enc s_0), e := 64, ext := false, fz := 0, pl := true, o := false }]) :=
  Does.of_viewM 1 400 [.op none .a, .br false] [0] (ps := [((decide ((↑k195 : Int) < (↑x146.Lines.length : Int))) = false)]) (by kernel_rfl) (by kernel_rfl) (ok1 (decide_eq_false c164))
def tollwaylaw49_great_L156_X (s_0 : Tapi_State) (v3 : Int) (k168 : Nat) (x146 : Tapi_Charge) : Int → AEx := fun o => (.exit 12)
def tollwaylaw49_great_L156_E (s_0 : Tapi_State) (v3 : Int) (k168 : Nat) (x146 : Tapi_Charge) : Int → St := fun o => S 233 [(1, .ptr 0 0), (3, .int .i64 o), (166, .lst (fl Tapi_Charge.enc s_0.Books.Done) s_0.Books.Done.length), (167, .int .i64 (↑s_0.Books.Done.length : Int)), (168, .int .i64 (↑k168 : Int))] [{ c := (Tapi_State.enc s_0), e := 64, ext := false, fz := 0, pl := true, o := false }]
theorem tollwaylaw49_great_L156_does (s_0 : Tapi_State) (v3 : Int) (k168 : Nat) (x146 : Tapi_Charge) {s : (Int × Nat)} {r : Int} (h : lp (tollwaylaw49_great_L156_step s_0 v3 k168 x146) s = some r) : Does Try.prog G0 1 (.loop (bodyAt Try.prog 12 [1, 1, 1, 1, 1, 1, 1, 0, 1, 0, 0, 1, 1, 0, 0, 1, 1, 1, 1, 0, 0])) (tollwaylaw49_great_L156_H s_0 v3 k168 x146 s) (tollwaylaw49_great_L156_X s_0 v3 k168 x146 r) (tollwaylaw49_great_L156_E s_0 v3 k168 x146 r) := by
  refine Does.lp (H := tollwaylaw49_great_L156_H s_0 v3 k168 x146) (X := tollwaylaw49_great_L156_X s_0 v3 k168 x146) (E := tollwaylaw49_great_L156_E s_0 v3 k168 x146) (fun s s2 h => ?_) (fun s r h => ?_) h
  · obtain ⟨v3, k195⟩ := s
    unfold tollwaylaw49_great_L156_step at h
    try dsimp only at h
    rcases ite_some h with ⟨c164, h⟩ | ⟨c164, h⟩
    · obtain ⟨x165, h166, h⟩ := bind_some h
      obtain ⟨h167, h⟩ := guard_some h
      obtain ⟨y168, h169, h⟩ := bind_some h
      obtain ⟨h170, h⟩ := guard_some h
      simp only [Option.some.injEq, Sum.inl.injEq] at h
      subst h
      exact tollwaylaw49_great_L156_0 s_0 v3 k168 x146 v3 k195 c164 x165 h166 h167 y168 h169 h170
    · simp at h
  · obtain ⟨v3, k195⟩ := s
    unfold tollwaylaw49_great_L156_step at h
    try dsimp only at h
    rcases ite_some h with ⟨c164, h⟩ | ⟨c164, h⟩
    · obtain ⟨x165, h166, h⟩ := bind_some h
      obtain ⟨h167, h⟩ := guard_some h
      obtain ⟨y168, h169, h⟩ := bind_some h
      obtain ⟨h170, h⟩ := guard_some h
      simp at h
    · simp only [Option.some.injEq, Sum.inr.injEq] at h
      subst h
      exact ⟨tollwaylaw49_great_L156_1 s_0 v3 k168 x146 v3 k195 c164, by intro q; cases q⟩
noncomputable def tollwaylaw49_great_L117_step (s_0 : Tapi_State) : (Int × Nat) → Option ((Int × Nat) ⊕ (Unit ⊕ Int))
  | (v3, k168) =>
    if (↑k168 : Int) < (↑s_0.Books.Done.length : Int) then
      (s_0.Books.Done[k168]?).bind fun x146 =>
      if (↑x146.Lines.length : Int) > (30 : Int) then
        some (Sum.inr (Sum.inl ()))
      else
        if InR .i64 ((if 30000 < (↑x146.Key.length : Int) then 30000 else (↑x146.Key.length : Int)) + (if 30000 < (↑x146.Vehicle.length : Int) then 30000 else (↑x146.Vehicle.length : Int))) then
          (some ((if 30000 < (↑x146.Key.length : Int) then 30000 else (↑x146.Key.length : Int)) + (if 30000 < (↑x146.Vehicle.length : Int) then 30000 else (↑x146.Vehicle.length : Int)))).bind fun y150 =>
          if InR .i64 (y150 + (if 30000 < (↑x146.System.length : Int) then 30000 else (↑x146.System.length : Int))) then
            (some (y150 + (if 30000 < (↑x146.System.length : Int) then 30000 else (↑x146.System.length : Int)))).bind fun y153 =>
            if InR .i64 (v3 + y153) then
              (lp (tollwaylaw49_great_L156_step s_0 v3 k168 x146) ((v3 + y153), (0 : Nat))).bind fun o156 =>
              if InR .i64 ((↑k168 : Int) + 1) then
                some (Sum.inl (o156, (k168 + 1)))
              else none
            else none
          else none
        else none
    else
      some (Sum.inr (Sum.inr (v3)))
def tollwaylaw49_great_L117_H (s_0 : Tapi_State) : (Int × Nat) → St := fun (s : (Int × Nat)) => S 233 [(1, .ptr 0 0), (3, .int .i64 s.1), (166, .lst (fl Tapi_Charge.enc s_0.Books.Done) s_0.Books.Done.length), (167, .int .i64 (↑s_0.Books.Done.length : Int)), (168, .int .i64 (↑s.2 : Int))] [{ c := (Tapi_State.enc s_0), e := 64, ext := false, fz := 0, pl := true, o := false }]
theorem tollwaylaw49_great_L117_0 (s_0 : Tapi_State) (v3 : Int) (k168 : Nat) (c145 : (↑k168 : Int) < (↑s_0.Books.Done.length : Int)) (x146 : Tapi_Charge) (h147 : s_0.Books.Done[k168]? = some x146) (c148 : (↑x146.Lines.length : Int) > (30 : Int)) : Does Try.prog G0 1 (bodyAt Try.prog 12 [1, 1, 1, 1, 1, 1, 1, 0, 1, 0, 0]) (tollwaylaw49_great_L117_H s_0 (v3, k168)) .ret (S 233 [(2, .bool true)] [{ c := (Tapi_State.enc s_0), e := 64, ext := false, fz := 0, pl := true, o := false }]) :=
  Does.of_viewM 1 400 ((.op none .a) :: (.br true) :: (.op none (.i k168)) :: (.op none (.v [.str x146.Key, .str x146.Vehicle, .str x146.System, .int .i64 x146.Class, .int .i64 x146.Time, .lst (fl Tapi_Line.enc x146.Lines) x146.Lines.length, .int .i64 x146.Cents])) :: (cs 5 [.op none .a, .br true, .op none .c])) [0] (ps := [((decide ((↑k168 : Int) < (↑s_0.Books.Done.length : Int))) = true), ((↑k168 : Int) = ((k168 : Nat) : Int) ∧ k168 < s_0.Books.Done.length), ((fl Tapi_Charge.enc s_0.Books.Done) ≠ []), (sub (fl Tapi_Charge.enc s_0.Books.Done) (k168 * 7) 7 = [.str x146.Key, .str x146.Vehicle, .str x146.System, .int .i64 x146.Class, .int .i64 x146.Time, .lst (fl Tapi_Line.enc x146.Lines) x146.Lines.length, .int .i64 x146.Cents]), ((decide ((↑x146.Lines.length : Int) > (30 : Int))) = true)]) (by kernel_rfl) (by kernel_rfl) ⟨(decide_eq_true c145), ⟨rfl, get_lt h147⟩, (fl_ne (f := Tapi_Charge.enc) (z := 6) (fun _ => rfl) h147), (fl_sub0 (f := Tapi_Charge.enc) (z := 7) (j := k168) (fun _ => rfl) h147 rfl), ok1 (decide_eq_true c148)⟩
theorem tollwaylaw49_great_L117_1 (s_0 : Tapi_State) (v3 : Int) (k168 : Nat) (c145 : (↑k168 : Int) < (↑s_0.Books.Done.length : Int)) (x146 : Tapi_Charge) (h147 : s_0.Books.Done[k168]? = some x146) (c148 : ¬ ((↑x146.Lines.length : Int) > (30 : Int))) (h149 : InR .i64 ((if 30000 < (↑x146.Key.length : Int) then 30000 else (↑x146.Key.length : Int)) + (if 30000 < (↑x146.Vehicle.length : Int) then 30000 else (↑x146.Vehicle.length : Int)))) (y150 : Int) (h151 : some ((if 30000 < (↑x146.Key.length : Int) then 30000 else (↑x146.Key.length : Int)) + (if 30000 < (↑x146.Vehicle.length : Int) then 30000 else (↑x146.Vehicle.length : Int))) = some y150) (h152 : InR .i64 (y150 + (if 30000 < (↑x146.System.length : Int) then 30000 else (↑x146.System.length : Int)))) (y153 : Int) (h154 : some (y150 + (if 30000 < (↑x146.System.length : Int) then 30000 else (↑x146.System.length : Int))) = some y153) (h155 : InR .i64 (v3 + y153)) (o156 : Int) (hl156 : lp (tollwaylaw49_great_L156_step s_0 v3 k168 x146) ((v3 + y153), (0 : Nat)) = some o156) (h171 : InR .i64 ((↑k168 : Int) + 1)) : Does Try.prog G0 1 (bodyAt Try.prog 12 [1, 1, 1, 1, 1, 1, 1, 0, 1, 0, 0]) (tollwaylaw49_great_L117_H s_0 (v3, k168)) .normal (S 233 [(1, .ptr 0 0), (3, .int .i64 o156), (166, .lst (fl Tapi_Charge.enc s_0.Books.Done) s_0.Books.Done.length), (167, .int .i64 (↑s_0.Books.Done.length : Int)), (168, .int .i64 ((↑k168 : Int) + 1))] [{ c := (Tapi_State.enc s_0), e := 64, ext := false, fz := 0, pl := true, o := false }]) :=
  Does.of_viewM 1 400 ((.op none .a) :: (.br true) :: (.op none (.i k168)) :: (.op none (.v [.str x146.Key, .str x146.Vehicle, .str x146.System, .int .i64 x146.Class, .int .i64 x146.Time, .lst (fl Tapi_Line.enc x146.Lines) x146.Lines.length, .int .i64 x146.Cents])) :: (cs 5 ((.op none .a) :: (.br false) :: (cs 4 ((.op none .a) :: (cs 3 ((.op none .a) :: (.op none .w) :: (.tr (.eqt (.t 185) (.int .i64 y150))) :: (cs 3 ((.op none .a) :: (.op none .w) :: (.tr (.eqt (.t 190) (.int .i64 y153))) :: (.op none .w) :: (cs 5 [.fcut 1 (.exit 12) [(1, .ptr 0 0), (3, .int .i64 o156), (166, .lst (fl Tapi_Charge.enc s_0.Books.Done) s_0.Books.Done.length), (167, .int .i64 (↑s_0.Books.Done.length : Int)), (168, .int .i64 (↑k168 : Int))] [{ c := (Tapi_State.enc s_0), e := 64, ext := false, fz := 0, pl := true, o := false }] [0] [(1, .ptr 0 0), (3, .int .i64 (v3 + y153)), (166, .lst (fl Tapi_Charge.enc s_0.Books.Done) s_0.Books.Done.length), (167, .int .i64 (↑s_0.Books.Done.length : Int)), (168, .int .i64 (↑k168 : Int)), (193, .lst (fl Tapi_Line.enc x146.Lines) x146.Lines.length), (194, .int .i64 (↑x146.Lines.length : Int)), (195, .int .i64 (↑(0 : Nat) : Int))] [{ c := (Tapi_State.enc s_0), e := 64, ext := false, fz := 0, pl := true, o := false }], .op none .w, .op none .c])))))))))) [0] (ps := [((decide ((↑k168 : Int) < (↑s_0.Books.Done.length : Int))) = true), ((↑k168 : Int) = ((k168 : Nat) : Int) ∧ k168 < s_0.Books.Done.length), ((fl Tapi_Charge.enc s_0.Books.Done) ≠ []), (sub (fl Tapi_Charge.enc s_0.Books.Done) (k168 * 7) 7 = [.str x146.Key, .str x146.Vehicle, .str x146.System, .int .i64 x146.Class, .int .i64 x146.Time, .lst (fl Tapi_Line.enc x146.Lines) x146.Lines.length, .int .i64 x146.Cents]), ((decide ((↑x146.Lines.length : Int) > (30 : Int))) = false), (IntKind.min .i64 ≤ ((if 30000 < (↑x146.Key.length : Int) then 30000 else (↑x146.Key.length : Int)) + (if 30000 < (↑x146.Vehicle.length : Int) then 30000 else (↑x146.Vehicle.length : Int))) ∧ ((if 30000 < (↑x146.Key.length : Int) then 30000 else (↑x146.Key.length : Int)) + (if 30000 < (↑x146.Vehicle.length : Int) then 30000 else (↑x146.Vehicle.length : Int))) ≤ IntKind.max .i64), ((.int .i64 ((if 30000 < (↑x146.Key.length : Int) then 30000 else (↑x146.Key.length : Int)) + (if 30000 < (↑x146.Vehicle.length : Int) then 30000 else (↑x146.Vehicle.length : Int))) : AV) = .int .i64 y150), (IntKind.min .i64 ≤ (y150 + (if 30000 < (↑x146.System.length : Int) then 30000 else (↑x146.System.length : Int))) ∧ (y150 + (if 30000 < (↑x146.System.length : Int) then 30000 else (↑x146.System.length : Int))) ≤ IntKind.max .i64), ((.int .i64 (y150 + (if 30000 < (↑x146.System.length : Int) then 30000 else (↑x146.System.length : Int))) : AV) = .int .i64 y153), (IntKind.min .i64 ≤ (v3 + y153) ∧ (v3 + y153) ≤ IntKind.max .i64), ((.ptr 0 0 : AV) = .ptr 0 0), ((.int .i64 (v3 + y153) : AV) = .int .i64 (v3 + y153)), ((.lst (fl Tapi_Charge.enc s_0.Books.Done) s_0.Books.Done.length : AV) = .lst (fl Tapi_Charge.enc s_0.Books.Done) s_0.Books.Done.length), ((.int .i64 (↑s_0.Books.Done.length : Int) : AV) = .int .i64 (↑s_0.Books.Done.length : Int)), ((.int .i64 (↑k168 : Int) : AV) = .int .i64 (↑k168 : Int)), ((.lst (fl Tapi_Line.enc x146.Lines) x146.Lines.length : AV) = .lst (fl Tapi_Line.enc x146.Lines) x146.Lines.length), ((.int .i64 (↑x146.Lines.length : Int) : AV) = .int .i64 (↑x146.Lines.length : Int)), ((.int .i64 0 : AV) = .int .i64 (↑(0 : Nat) : Int)), (({ c := (Tapi_State.enc s_0), e := 64, ext := false, fz := 0, pl := true, o := false } : Blk) = renB [0] { c := (Tapi_State.enc s_0), e := 64, ext := false, fz := 0, pl := true, o := false }), (Does Try.prog G0 1 (.loop (bodyAt Try.prog 12 [1, 1, 1, 1, 1, 1, 1, 0, 1, 0, 0, 1, 1, 0, 0, 1, 1, 1, 1, 0, 0])) (S 233 [(1, .ptr 0 0), (3, .int .i64 (v3 + y153)), (166, .lst (fl Tapi_Charge.enc s_0.Books.Done) s_0.Books.Done.length), (167, .int .i64 (↑s_0.Books.Done.length : Int)), (168, .int .i64 (↑k168 : Int)), (193, .lst (fl Tapi_Line.enc x146.Lines) x146.Lines.length), (194, .int .i64 (↑x146.Lines.length : Int)), (195, .int .i64 (↑(0 : Nat) : Int))] [{ c := (Tapi_State.enc s_0), e := 64, ext := false, fz := 0, pl := true, o := false }]) (.exit 12) (S 233 [(1, .ptr 0 0), (3, .int .i64 o156), (166, .lst (fl Tapi_Charge.enc s_0.Books.Done) s_0.Books.Done.length), (167, .int .i64 (↑s_0.Books.Done.length : Int)), (168, .int .i64 (↑k168 : Int))] [{ c := (Tapi_State.enc s_0), e := 64, ext := false, fz := 0, pl := true, o := false }])), (IntKind.min .i64 ≤ ((↑k168 : Int) + 1) ∧ ((↑k168 : Int) + 1) ≤ IntKind.max .i64)]) (by kernel_rfl) (by kernel_rfl) ⟨(decide_eq_true c145), ⟨rfl, get_lt h147⟩, (fl_ne (f := Tapi_Charge.enc) (z := 6) (fun _ => rfl) h147), (fl_sub0 (f := Tapi_Charge.enc) (z := 7) (j := k168) (fun _ => rfl) h147 rfl), (decide_eq_false c148), h149, (congrArg _ (Option.some.inj h151)), h152, (congrArg _ (Option.some.inj h154)), h155, rfl, rfl, rfl, rfl, rfl, rfl, rfl, rfl, rfl, (tollwaylaw49_great_L156_does s_0 v3 k168 x146 hl156), ok1 h171⟩
theorem tollwaylaw49_great_L117_2 (s_0 : Tapi_State) (v3 : Int) (k168 : Nat) (c145 : ¬ ((↑k168 : Int) < (↑s_0.Books.Done.length : Int))) : Does Try.prog G0 1 (bodyAt Try.prog 12 [1, 1, 1, 1, 1, 1, 1, 0, 1, 0, 0]) (tollwaylaw49_great_L117_H s_0 (v3, k168)) (.exit 10) (S 233 [(1, .ptr 0 0), (3, .int .i64 v3)] [{ c := (Tapi_State.enc s_0), e := 64, ext := false, fz := 0, pl := true, o := false }]) :=
  Does.of_viewM 1 400 [.op none .a, .br false] [0] (ps := [((decide ((↑k168 : Int) < (↑s_0.Books.Done.length : Int))) = false)]) (by kernel_rfl) (by kernel_rfl) (ok1 (decide_eq_false c145))
def tollwaylaw49_great_L117_X (s_0 : Tapi_State) : (Unit ⊕ Int) → AEx := fun q => match q with | Sum.inl o => .ret | Sum.inr (o) => (.exit 10)
def tollwaylaw49_great_L117_E (s_0 : Tapi_State) : (Unit ⊕ Int) → St := fun q => match q with | Sum.inl o => S 233 [(2, .bool true)] [{ c := (Tapi_State.enc s_0), e := 64, ext := false, fz := 0, pl := true, o := false }] | Sum.inr (o) => S 233 [(1, .ptr 0 0), (3, .int .i64 o)] [{ c := (Tapi_State.enc s_0), e := 64, ext := false, fz := 0, pl := true, o := false }]
theorem tollwaylaw49_great_L117_does (s_0 : Tapi_State) {s : (Int × Nat)} {r : Unit ⊕ Int} (h : lp (tollwaylaw49_great_L117_step s_0) s = some r) : Does Try.prog G0 1 (.loop (bodyAt Try.prog 12 [1, 1, 1, 1, 1, 1, 1, 0, 1, 0, 0])) (tollwaylaw49_great_L117_H s_0 s) (tollwaylaw49_great_L117_X s_0 r) (tollwaylaw49_great_L117_E s_0 r) := by
  refine Does.lp (H := tollwaylaw49_great_L117_H s_0) (X := tollwaylaw49_great_L117_X s_0) (E := tollwaylaw49_great_L117_E s_0) (fun s s2 h => ?_) (fun s r h => ?_) h
  · obtain ⟨v3, k168⟩ := s
    unfold tollwaylaw49_great_L117_step at h
    try dsimp only at h
    rcases ite_some h with ⟨c145, h⟩ | ⟨c145, h⟩
    · obtain ⟨x146, h147, h⟩ := bind_some h
      rcases ite_some h with ⟨c148, h⟩ | ⟨c148, h⟩
      · simp at h
      · obtain ⟨h149, h⟩ := guard_some h
        obtain ⟨y150, h151, h⟩ := bind_some h
        obtain ⟨h152, h⟩ := guard_some h
        obtain ⟨y153, h154, h⟩ := bind_some h
        obtain ⟨h155, h⟩ := guard_some h
        obtain ⟨o156, hl156, h⟩ := bind_some h
        obtain ⟨h171, h⟩ := guard_some h
        simp only [Option.some.injEq, Sum.inl.injEq] at h
        subst h
        exact tollwaylaw49_great_L117_1 s_0 v3 k168 c145 x146 h147 c148 h149 y150 h151 h152 y153 h154 h155 o156 hl156 h171
    · simp at h
  · obtain ⟨v3, k168⟩ := s
    unfold tollwaylaw49_great_L117_step at h
    try dsimp only at h
    rcases ite_some h with ⟨c145, h⟩ | ⟨c145, h⟩
    · obtain ⟨x146, h147, h⟩ := bind_some h
      rcases ite_some h with ⟨c148, h⟩ | ⟨c148, h⟩
      · simp only [Option.some.injEq, Sum.inr.injEq] at h
        subst h
        exact ⟨tollwaylaw49_great_L117_0 s_0 v3 k168 c145 x146 h147 c148, by intro q; cases q⟩
      · obtain ⟨h149, h⟩ := guard_some h
        obtain ⟨y150, h151, h⟩ := bind_some h
        obtain ⟨h152, h⟩ := guard_some h
        obtain ⟨y153, h154, h⟩ := bind_some h
        obtain ⟨h155, h⟩ := guard_some h
        obtain ⟨o156, hl156, h⟩ := bind_some h
        obtain ⟨h171, h⟩ := guard_some h
        simp at h
    · simp only [Option.some.injEq, Sum.inr.injEq] at h
      subst h
      exact ⟨tollwaylaw49_great_L117_2 s_0 v3 k168 c145, by intro q; cases q⟩
noncomputable def tollwaylaw49_great_L172_step (s_0 : Tapi_State) : (Int × Nat) → Option ((Int × Nat) ⊕ Int)
  | (v3, k210) =>
    if (↑k210 : Int) < (↑s_0.Cases.length : Int) then
      (s_0.Cases[k210]?).bind fun x185 =>
      if InR .i64 ((if 30000 < (↑x185.ID.length : Int) then 30000 else (↑x185.ID.length : Int)) + (if 30000 < (↑x185.Plate.length : Int) then 30000 else (↑x185.Plate.length : Int))) then
        (some ((if 30000 < (↑x185.ID.length : Int) then 30000 else (↑x185.ID.length : Int)) + (if 30000 < (↑x185.Plate.length : Int) then 30000 else (↑x185.Plate.length : Int)))).bind fun y188 =>
        if InR .i64 (y188 + (if 30000 < (↑x185.Key.length : Int) then 30000 else (↑x185.Key.length : Int))) then
          (some (y188 + (if 30000 < (↑x185.Key.length : Int) then 30000 else (↑x185.Key.length : Int)))).bind fun y191 =>
          if InR .i64 (v3 + y191) then
            if InR .i64 ((↑k210 : Int) + 1) then
              some (Sum.inl ((v3 + y191), (k210 + 1)))
            else none
          else none
        else none
      else none
    else
      some (Sum.inr v3)
def tollwaylaw49_great_L172_H (s_0 : Tapi_State) : (Int × Nat) → St := fun (s : (Int × Nat)) => S 233 [(3, .int .i64 s.1), (208, .lst (fl Tapi_Case.enc s_0.Cases) s_0.Cases.length), (209, .int .i64 (↑s_0.Cases.length : Int)), (210, .int .i64 (↑s.2 : Int))] []
theorem tollwaylaw49_great_L172_0 (s_0 : Tapi_State) (v3 : Int) (k210 : Nat) (c184 : (↑k210 : Int) < (↑s_0.Cases.length : Int)) (x185 : Tapi_Case) (h186 : s_0.Cases[k210]? = some x185) (h187 : InR .i64 ((if 30000 < (↑x185.ID.length : Int) then 30000 else (↑x185.ID.length : Int)) + (if 30000 < (↑x185.Plate.length : Int) then 30000 else (↑x185.Plate.length : Int)))) (y188 : Int) (h189 : some ((if 30000 < (↑x185.ID.length : Int) then 30000 else (↑x185.ID.length : Int)) + (if 30000 < (↑x185.Plate.length : Int) then 30000 else (↑x185.Plate.length : Int))) = some y188) (h190 : InR .i64 (y188 + (if 30000 < (↑x185.Key.length : Int) then 30000 else (↑x185.Key.length : Int)))) (y191 : Int) (h192 : some (y188 + (if 30000 < (↑x185.Key.length : Int) then 30000 else (↑x185.Key.length : Int))) = some y191) (h193 : InR .i64 (v3 + y191)) (h194 : InR .i64 ((↑k210 : Int) + 1)) : Does Try.prog G0 0 (bodyAt Try.prog 12 [1, 1, 1, 1, 1, 1, 1, 1, 0, 1, 0, 0]) (tollwaylaw49_great_L172_H s_0 (v3, k210)) .normal (S 233 [(3, .int .i64 (v3 + y191)), (208, .lst (fl Tapi_Case.enc s_0.Cases) s_0.Cases.length), (209, .int .i64 (↑s_0.Cases.length : Int)), (210, .int .i64 ((↑k210 : Int) + 1))] []) :=
  Does.of_viewM 0 400 ((.op none .a) :: (.br true) :: (.op none (.i k210)) :: (.op none (.v [.str x185.ID, .str x185.Plate, .str x185.Key, .int .i64 x185.Begun, .int .i64 x185.Since, .int .i64 x185.Stage, .int .i64 x185.Owed, .int .i64 x185.Paid, .int .i64 x185.Paused, .int .i64 x185.Appeal.State, .int .i64 x185.Appeal.Ground, .int .i64 x185.Appeal.Day])) :: (cs 6 ((.op none .a) :: (cs 3 ((.op none .a) :: (.op none .w) :: (.tr (.eqt (.t 223) (.int .i64 y188))) :: (cs 3 [.op none .a, .op none .w, .tr (.eqt (.t 228) (.int .i64 y191)), .op none .w, .op none .c, .op none .w, .op none .c])))))) [] (ps := [((decide ((↑k210 : Int) < (↑s_0.Cases.length : Int))) = true), ((↑k210 : Int) = ((k210 : Nat) : Int) ∧ k210 < s_0.Cases.length), ((fl Tapi_Case.enc s_0.Cases) ≠ []), (sub (fl Tapi_Case.enc s_0.Cases) (k210 * 12) 12 = [.str x185.ID, .str x185.Plate, .str x185.Key, .int .i64 x185.Begun, .int .i64 x185.Since, .int .i64 x185.Stage, .int .i64 x185.Owed, .int .i64 x185.Paid, .int .i64 x185.Paused, .int .i64 x185.Appeal.State, .int .i64 x185.Appeal.Ground, .int .i64 x185.Appeal.Day]), (IntKind.min .i64 ≤ ((if 30000 < (↑x185.ID.length : Int) then 30000 else (↑x185.ID.length : Int)) + (if 30000 < (↑x185.Plate.length : Int) then 30000 else (↑x185.Plate.length : Int))) ∧ ((if 30000 < (↑x185.ID.length : Int) then 30000 else (↑x185.ID.length : Int)) + (if 30000 < (↑x185.Plate.length : Int) then 30000 else (↑x185.Plate.length : Int))) ≤ IntKind.max .i64), ((.int .i64 ((if 30000 < (↑x185.ID.length : Int) then 30000 else (↑x185.ID.length : Int)) + (if 30000 < (↑x185.Plate.length : Int) then 30000 else (↑x185.Plate.length : Int))) : AV) = .int .i64 y188), (IntKind.min .i64 ≤ (y188 + (if 30000 < (↑x185.Key.length : Int) then 30000 else (↑x185.Key.length : Int))) ∧ (y188 + (if 30000 < (↑x185.Key.length : Int) then 30000 else (↑x185.Key.length : Int))) ≤ IntKind.max .i64), ((.int .i64 (y188 + (if 30000 < (↑x185.Key.length : Int) then 30000 else (↑x185.Key.length : Int))) : AV) = .int .i64 y191), (IntKind.min .i64 ≤ (v3 + y191) ∧ (v3 + y191) ≤ IntKind.max .i64), (IntKind.min .i64 ≤ ((↑k210 : Int) + 1) ∧ ((↑k210 : Int) + 1) ≤ IntKind.max .i64)]) (by kernel_rfl) (by kernel_rfl) ⟨(decide_eq_true c184), ⟨rfl, get_lt h186⟩, (fl_ne (f := Tapi_Case.enc) (z := 11) (fun _ => rfl) h186), (fl_sub0 (f := Tapi_Case.enc) (z := 12) (j := k210) (fun _ => rfl) h186 rfl), h187, (congrArg _ (Option.some.inj h189)), h190, (congrArg _ (Option.some.inj h192)), h193, ok1 h194⟩
theorem tollwaylaw49_great_L172_1 (s_0 : Tapi_State) (v3 : Int) (k210 : Nat) (c184 : ¬ ((↑k210 : Int) < (↑s_0.Cases.length : Int))) : Does Try.prog G0 0 (bodyAt Try.prog 12 [1, 1, 1, 1, 1, 1, 1, 1, 0, 1, 0, 0]) (tollwaylaw49_great_L172_H s_0 (v3, k210)) (.exit 14) (S 233 [(3, .int .i64 v3)] []) :=
  Does.of_viewM 0 400 [.op none .a, .br false] [] (ps := [((decide ((↑k210 : Int) < (↑s_0.Cases.length : Int))) = false)]) (by kernel_rfl) (by kernel_rfl) (ok1 (decide_eq_false c184))
def tollwaylaw49_great_L172_X (s_0 : Tapi_State) : Int → AEx := fun o => (.exit 14)
def tollwaylaw49_great_L172_E (s_0 : Tapi_State) : Int → St := fun o => S 233 [(3, .int .i64 o)] []
theorem tollwaylaw49_great_L172_does (s_0 : Tapi_State) {s : (Int × Nat)} {r : Int} (h : lp (tollwaylaw49_great_L172_step s_0) s = some r) : Does Try.prog G0 0 (.loop (bodyAt Try.prog 12 [1, 1, 1, 1, 1, 1, 1, 1, 0, 1, 0, 0])) (tollwaylaw49_great_L172_H s_0 s) (tollwaylaw49_great_L172_X s_0 r) (tollwaylaw49_great_L172_E s_0 r) := by
  refine Does.lp (H := tollwaylaw49_great_L172_H s_0) (X := tollwaylaw49_great_L172_X s_0) (E := tollwaylaw49_great_L172_E s_0) (fun s s2 h => ?_) (fun s r h => ?_) h
  · obtain ⟨v3, k210⟩ := s
    unfold tollwaylaw49_great_L172_step at h
    try dsimp only at h
    rcases ite_some h with ⟨c184, h⟩ | ⟨c184, h⟩
    · obtain ⟨x185, h186, h⟩ := bind_some h
      obtain ⟨h187, h⟩ := guard_some h
      obtain ⟨y188, h189, h⟩ := bind_some h
      obtain ⟨h190, h⟩ := guard_some h
      obtain ⟨y191, h192, h⟩ := bind_some h
      obtain ⟨h193, h⟩ := guard_some h
      obtain ⟨h194, h⟩ := guard_some h
      simp only [Option.some.injEq, Sum.inl.injEq] at h
      subst h
      exact tollwaylaw49_great_L172_0 s_0 v3 k210 c184 x185 h186 h187 y188 h189 h190 y191 h192 h193 h194
    · simp at h
  · obtain ⟨v3, k210⟩ := s
    unfold tollwaylaw49_great_L172_step at h
    try dsimp only at h
    rcases ite_some h with ⟨c184, h⟩ | ⟨c184, h⟩
    · obtain ⟨x185, h186, h⟩ := bind_some h
      obtain ⟨h187, h⟩ := guard_some h
      obtain ⟨y188, h189, h⟩ := bind_some h
      obtain ⟨h190, h⟩ := guard_some h
      obtain ⟨y191, h192, h⟩ := bind_some h
      obtain ⟨h193, h⟩ := guard_some h
      obtain ⟨h194, h⟩ := guard_some h
      simp at h
    · simp only [Option.some.injEq, Sum.inr.injEq] at h
      subst h
      exact ⟨tollwaylaw49_great_L172_1 s_0 v3 k210 c184, by intro q; cases q⟩
noncomputable def tollwaylaw49_great (s_0 : Tapi_State) : Option Bool :=
  if (↑s_0.Seen.length : Int) > (60 : Int) then
    some true
  else
    if (↑s_0.Rejects.length : Int) > (60 : Int) then
      some true
    else
      if (↑s_0.Parked.length : Int) > (60 : Int) then
        some true
      else
        if (↑s_0.Books.Ledger.Entries.length : Int) > (60 : Int) then
          some true
        else
          if (↑s_0.Books.Done.length : Int) > (60 : Int) then
            some true
          else
            if (↑s_0.Cases.length : Int) > (60 : Int) then
              some true
            else
              (lp (tollwaylaw49_great_L7_step s_0) ((0 : Int), (0 : Nat))).bind fun o7 =>
              (lp (tollwaylaw49_great_L30_step s_0) (o7, (0 : Nat))).bind fun o30 =>
              (lp (tollwaylaw49_great_L53_step s_0) (o30, (0 : Nat))).bind fun o53 =>
              (lp (tollwaylaw49_great_L70_step s_0) (o53, (0 : Nat))).bind fun qq => match qq with
              | Sum.inl o70 =>
                some true
              | Sum.inr (o70) =>
                (lp (tollwaylaw49_great_L117_step s_0) (o70, (0 : Nat))).bind fun qq => match qq with
                | Sum.inl o117 =>
                  some true
                | Sum.inr (o117) =>
                  (lp (tollwaylaw49_great_L172_step s_0) (o117, (0 : Nat))).bind fun o172 =>
                  some (decide (o172 > (20000 : Int)))
theorem tollwaylaw49_great_0 (s_0 : Tapi_State) (c1 : (↑s_0.Seen.length : Int) > (60 : Int)) : Ret Try.prog G0 12 [.agg (Tapi_State.enc s_0)] (.bool true) [] :=
  Ret.of_view 400 (cs 5 ((.op none .a) :: (.op none .c) :: (.op (some true) .c) :: (cs 31 [.br true, .op none .c]))) [] (ps := [((decide ((↑s_0.Seen.length : Int) > (60 : Int))) = true), (true = true)]) (by kernel_rfl) (by kernel_rfl) ⟨(decide_eq_true c1), ok1 rfl⟩
theorem tollwaylaw49_great_1 (s_0 : Tapi_State) (c1 : ¬ ((↑s_0.Seen.length : Int) > (60 : Int))) (c2 : (↑s_0.Rejects.length : Int) > (60 : Int)) : Ret Try.prog G0 12 [.agg (Tapi_State.enc s_0)] (.bool true) [] :=
  Ret.of_view 400 (cs 5 ((.op none .a) :: (.op none .c) :: (.op (some false) .c) :: (cs 2 ((.op none .a) :: (cs 2 ((.op (some true) .c) :: (cs 25 [.br true, .op none .c]))))))) [] (ps := [((decide ((↑s_0.Seen.length : Int) > (60 : Int))) = false), ((decide ((↑s_0.Rejects.length : Int) > (60 : Int))) = true), (true = true)]) (by kernel_rfl) (by kernel_rfl) ⟨(decide_eq_false c1), (decide_eq_true c2), ok1 rfl⟩
theorem tollwaylaw49_great_2 (s_0 : Tapi_State) (c1 : ¬ ((↑s_0.Seen.length : Int) > (60 : Int))) (c2 : ¬ ((↑s_0.Rejects.length : Int) > (60 : Int))) (c3 : (↑s_0.Parked.length : Int) > (60 : Int)) : Ret Try.prog G0 12 [.agg (Tapi_State.enc s_0)] (.bool true) [] :=
  Ret.of_view 400 (cs 5 ((.op none .a) :: (.op none .c) :: (.op (some false) .c) :: (cs 2 ((.op none .a) :: (cs 2 ((.op (some false) .c) :: (cs 2 ((.op none .a) :: (cs 2 ((.op (some true) .c) :: (cs 19 [.br true, .op none .c]))))))))))) [] (ps := [((decide ((↑s_0.Seen.length : Int) > (60 : Int))) = false), ((decide ((↑s_0.Rejects.length : Int) > (60 : Int))) = false), ((decide ((↑s_0.Parked.length : Int) > (60 : Int))) = true), (true = true)]) (by kernel_rfl) (by kernel_rfl) ⟨(decide_eq_false c1), (decide_eq_false c2), (decide_eq_true c3), ok1 rfl⟩
theorem tollwaylaw49_great_3 (s_0 : Tapi_State) (c1 : ¬ ((↑s_0.Seen.length : Int) > (60 : Int))) (c2 : ¬ ((↑s_0.Rejects.length : Int) > (60 : Int))) (c3 : ¬ ((↑s_0.Parked.length : Int) > (60 : Int))) (c4 : (↑s_0.Books.Ledger.Entries.length : Int) > (60 : Int)) : Ret Try.prog G0 12 [.agg (Tapi_State.enc s_0)] (.bool true) [] :=
  Ret.of_view 400 (cs 5 ((.op none .a) :: (.op none .c) :: (.op (some false) .c) :: (cs 2 ((.op none .a) :: (cs 2 ((.op (some false) .c) :: (cs 2 ((.op none .a) :: (cs 2 ((.op (some false) .c) :: (cs 4 ((.op none .a) :: (cs 2 ((.op (some true) .c) :: (cs 11 [.br true, .op none .c]))))))))))))))) [] (ps := [((decide ((↑s_0.Seen.length : Int) > (60 : Int))) = false), ((decide ((↑s_0.Rejects.length : Int) > (60 : Int))) = false), ((decide ((↑s_0.Parked.length : Int) > (60 : Int))) = false), ((decide ((↑s_0.Books.Ledger.Entries.length : Int) > (60 : Int))) = true), (true = true)]) (by kernel_rfl) (by kernel_rfl) ⟨(decide_eq_false c1), (decide_eq_false c2), (decide_eq_false c3), (decide_eq_true c4), ok1 rfl⟩
theorem tollwaylaw49_great_4 (s_0 : Tapi_State) (c1 : ¬ ((↑s_0.Seen.length : Int) > (60 : Int))) (c2 : ¬ ((↑s_0.Rejects.length : Int) > (60 : Int))) (c3 : ¬ ((↑s_0.Parked.length : Int) > (60 : Int))) (c4 : ¬ ((↑s_0.Books.Ledger.Entries.length : Int) > (60 : Int))) (c5 : (↑s_0.Books.Done.length : Int) > (60 : Int)) : Ret Try.prog G0 12 [.agg (Tapi_State.enc s_0)] (.bool true) [] :=
  Ret.of_view 400 (cs 5 ((.op none .a) :: (.op none .c) :: (.op (some false) .c) :: (cs 2 ((.op none .a) :: (cs 2 ((.op (some false) .c) :: (cs 2 ((.op none .a) :: (cs 2 ((.op (some false) .c) :: (cs 4 ((.op none .a) :: (cs 2 ((.op (some false) .c) :: (cs 3 ((.op none .a) :: (cs 2 ((.op (some true) .c) :: (cs 4 [.br true, .op none .c]))))))))))))))))))) [] (ps := [((decide ((↑s_0.Seen.length : Int) > (60 : Int))) = false), ((decide ((↑s_0.Rejects.length : Int) > (60 : Int))) = false), ((decide ((↑s_0.Parked.length : Int) > (60 : Int))) = false), ((decide ((↑s_0.Books.Ledger.Entries.length : Int) > (60 : Int))) = false), ((decide ((↑s_0.Books.Done.length : Int) > (60 : Int))) = true), (true = true)]) (by kernel_rfl) (by kernel_rfl) ⟨(decide_eq_false c1), (decide_eq_false c2), (decide_eq_false c3), (decide_eq_false c4), (decide_eq_true c5), ok1 rfl⟩
theorem tollwaylaw49_great_5 (s_0 : Tapi_State) (c1 : ¬ ((↑s_0.Seen.length : Int) > (60 : Int))) (c2 : ¬ ((↑s_0.Rejects.length : Int) > (60 : Int))) (c3 : ¬ ((↑s_0.Parked.length : Int) > (60 : Int))) (c4 : ¬ ((↑s_0.Books.Ledger.Entries.length : Int) > (60 : Int))) (c5 : ¬ ((↑s_0.Books.Done.length : Int) > (60 : Int))) (c6 : (↑s_0.Cases.length : Int) > (60 : Int)) : Ret Try.prog G0 12 [.agg (Tapi_State.enc s_0)] (.bool true) [] :=
  Ret.of_view 400 (cs 5 ((.op none .a) :: (.op none .c) :: (.op (some false) .c) :: (cs 2 ((.op none .a) :: (cs 2 ((.op (some false) .c) :: (cs 2 ((.op none .a) :: (cs 2 ((.op (some false) .c) :: (cs 4 ((.op none .a) :: (cs 2 ((.op (some false) .c) :: (cs 3 ((.op none .a) :: (cs 2 ((.op (some false) .c) :: (cs 2 [.op none .a, .op none .c, .br true, .op none .c]))))))))))))))))))) [] (ps := [((decide ((↑s_0.Seen.length : Int) > (60 : Int))) = false), ((decide ((↑s_0.Rejects.length : Int) > (60 : Int))) = false), ((decide ((↑s_0.Parked.length : Int) > (60 : Int))) = false), ((decide ((↑s_0.Books.Ledger.Entries.length : Int) > (60 : Int))) = false), ((decide ((↑s_0.Books.Done.length : Int) > (60 : Int))) = false), ((decide ((↑s_0.Cases.length : Int) > (60 : Int))) = true)]) (by kernel_rfl) (by kernel_rfl) ⟨(decide_eq_false c1), (decide_eq_false c2), (decide_eq_false c3), (decide_eq_false c4), (decide_eq_false c5), ok1 (decide_eq_true c6)⟩
theorem tollwaylaw49_great_6 (s_0 : Tapi_State) (c1 : ¬ ((↑s_0.Seen.length : Int) > (60 : Int))) (c2 : ¬ ((↑s_0.Rejects.length : Int) > (60 : Int))) (c3 : ¬ ((↑s_0.Parked.length : Int) > (60 : Int))) (c4 : ¬ ((↑s_0.Books.Ledger.Entries.length : Int) > (60 : Int))) (c5 : ¬ ((↑s_0.Books.Done.length : Int) > (60 : Int))) (c6 : ¬ ((↑s_0.Cases.length : Int) > (60 : Int))) (o7 : Int) (hl7 : lp (tollwaylaw49_great_L7_step s_0) ((0 : Int), (0 : Nat)) = some o7) (o30 : Int) (hl30 : lp (tollwaylaw49_great_L30_step s_0) (o7, (0 : Nat)) = some o30) (o53 : Int) (hl53 : lp (tollwaylaw49_great_L53_step s_0) (o30, (0 : Nat)) = some o53) (o70 : Unit) (hl70 : lp (tollwaylaw49_great_L70_step s_0) (o53, (0 : Nat)) = some (Sum.inl o70)) : Ret Try.prog G0 12 [.agg (Tapi_State.enc s_0)] (.bool true) [] :=
  Ret.of_view 400 (cs 5 ((.op none .a) :: (.op none .c) :: (.op (some false) .c) :: (cs 2 ((.op none .a) :: (cs 2 ((.op (some false) .c) :: (cs 2 ((.op none .a) :: (cs 2 ((.op (some false) .c) :: (cs 4 ((.op none .a) :: (cs 2 ((.op (some false) .c) :: (cs 3 ((.op none .a) :: (cs 2 ((.op (some false) .c) :: (cs 2 ((.op none .a) :: (.op none .c) :: (.br false) :: (cs 5 ((.fcut 1 (.exit 0) [(1, .ptr 0 0), (3, .int .i64 o7)] [{ c := (Tapi_State.enc s_0), e := 64, ext := false, fz := 0, pl := true, o := false }] [0] [(1, .ptr 0 0), (3, .int .i64 (0 : Int)), (58, .lst (fl Tapi_Seen.enc s_0.Seen) s_0.Seen.length), (59, .int .i64 (↑s_0.Seen.length : Int)), (60, .int .i64 (↑(0 : Nat) : Int))] [{ c := (Tapi_State.enc s_0), e := 64, ext := false, fz := 0, pl := true, o := false }]) :: (cs 4 ((.fcut 1 (.exit 2) [(1, .ptr 0 0), (3, .int .i64 o30)] [{ c := (Tapi_State.enc s_0), e := 64, ext := false, fz := 0, pl := true, o := false }] [0] [(1, .ptr 0 0), (3, .int .i64 o7), (85, .lst (fl Tapi_Reject.enc s_0.Rejects) s_0.Rejects.length), (86, .int .i64 (↑s_0.Rejects.length : Int)), (87, .int .i64 (↑(0 : Nat) : Int))] [{ c := (Tapi_State.enc s_0), e := 64, ext := false, fz := 0, pl := true, o := false }]) :: (cs 4 ((.fcut 1 (.exit 4) [(1, .ptr 0 0), (3, .int .i64 o53)] [{ c := (Tapi_State.enc s_0), e := 64, ext := false, fz := 0, pl := true, o := false }] [0] [(1, .ptr 0 0), (3, .int .i64 o30), (112, .lst (fl Tapi_Parked.enc s_0.Parked) s_0.Parked.length), (113, .int .i64 (↑s_0.Parked.length : Int)), (114, .int .i64 (↑(0 : Nat) : Int))] [{ c := (Tapi_State.enc s_0), e := 64, ext := false, fz := 0, pl := true, o := false }]) :: (cs 6 [.fcut 1 .ret [(2, .bool true)] [{ c := (Tapi_State.enc s_0), e := 64, ext := false, fz := 0, pl := true, o := false }] [0] [(1, .ptr 0 0), (3, .int .i64 o53), (133, .lst (fl Tapi_Entry.enc s_0.Books.Ledger.Entries) s_0.Books.Ledger.Entries.length), (134, .int .i64 (↑s_0.Books.Ledger.Entries.length : Int)), (135, .int .i64 (↑(0 : Nat) : Int))] [{ c := (Tapi_State.enc s_0), e := 64, ext := false, fz := 0, pl := true, o := false }]]))))))))))))))))))))))))))) [] (ps := [((decide ((↑s_0.Seen.length : Int) > (60 : Int))) = false), ((decide ((↑s_0.Rejects.length : Int) > (60 : Int))) = false), ((decide ((↑s_0.Parked.length : Int) > (60 : Int))) = false), ((decide ((↑s_0.Books.Ledger.Entries.length : Int) > (60 : Int))) = false), ((decide ((↑s_0.Books.Done.length : Int) > (60 : Int))) = false), ((decide ((↑s_0.Cases.length : Int) > (60 : Int))) = false), ((.ptr 0 0 : AV) = .ptr 0 0), ((.int .i64 0 : AV) = .int .i64 (0 : Int)), ((.lst (fl Tapi_Seen.enc s_0.Seen) s_0.Seen.length : AV) = .lst (fl Tapi_Seen.enc s_0.Seen) s_0.Seen.length), ((.int .i64 (↑s_0.Seen.length : Int) : AV) = .int .i64 (↑s_0.Seen.length : Int)), ((.int .i64 0 : AV) = .int .i64 (↑(0 : Nat) : Int)), (({ c := (Tapi_State.enc s_0), e := 64, ext := false, fz := 0, pl := true, o := false } : Blk) = renB [0] { c := (Tapi_State.enc s_0), e := 64, ext := false, fz := 0, pl := true, o := false }), (Does Try.prog G0 1 (.loop (bodyAt Try.prog 12 [1, 1, 1, 0, 1, 0, 0])) (S 233 [(1, .ptr 0 0), (3, .int .i64 (0 : Int)), (58, .lst (fl Tapi_Seen.enc s_0.Seen) s_0.Seen.length), (59, .int .i64 (↑s_0.Seen.length : Int)), (60, .int .i64 (↑(0 : Nat) : Int))] [{ c := (Tapi_State.enc s_0), e := 64, ext := false, fz := 0, pl := true, o := false }]) (.exit 0) (S 233 [(1, .ptr 0 0), (3, .int .i64 o7)] [{ c := (Tapi_State.enc s_0), e := 64, ext := false, fz := 0, pl := true, o := false }])), ((.ptr 0 0 : AV) = .ptr 0 0), ((.int .i64 o7 : AV) = .int .i64 o7), ((.lst (fl Tapi_Reject.enc s_0.Rejects) s_0.Rejects.length : AV) = .lst (fl Tapi_Reject.enc s_0.Rejects) s_0.Rejects.length), ((.int .i64 (↑s_0.Rejects.length : Int) : AV) = .int .i64 (↑s_0.Rejects.length : Int)), ((.int .i64 0 : AV) = .int .i64 (↑(0 : Nat) : Int)), (({ c := (Tapi_State.enc s_0), e := 64, ext := false, fz := 0, pl := true, o := false } : Blk) = renB [0] { c := (Tapi_State.enc s_0), e := 64, ext := false, fz := 0, pl := true, o := false }), (Does Try.prog G0 1 (.loop (bodyAt Try.prog 12 [1, 1, 1, 1, 0, 1, 0, 0])) (S 233 [(1, .ptr 0 0), (3, .int .i64 o7), (85, .lst (fl Tapi_Reject.enc s_0.Rejects) s_0.Rejects.length), (86, .int .i64 (↑s_0.Rejects.length : Int)), (87, .int .i64 (↑(0 : Nat) : Int))] [{ c := (Tapi_State.enc s_0), e := 64, ext := false, fz := 0, pl := true, o := false }]) (.exit 2) (S 233 [(1, .ptr 0 0), (3, .int .i64 o30)] [{ c := (Tapi_State.enc s_0), e := 64, ext := false, fz := 0, pl := true, o := false }])), ((.ptr 0 0 : AV) = .ptr 0 0), ((.int .i64 o30 : AV) = .int .i64 o30), ((.lst (fl Tapi_Parked.enc s_0.Parked) s_0.Parked.length : AV) = .lst (fl Tapi_Parked.enc s_0.Parked) s_0.Parked.length), ((.int .i64 (↑s_0.Parked.length : Int) : AV) = .int .i64 (↑s_0.Parked.length : Int)), ((.int .i64 0 : AV) = .int .i64 (↑(0 : Nat) : Int)), (({ c := (Tapi_State.enc s_0), e := 64, ext := false, fz := 0, pl := true, o := false } : Blk) = renB [0] { c := (Tapi_State.enc s_0), e := 64, ext := false, fz := 0, pl := true, o := false }), (Does Try.prog G0 1 (.loop (bodyAt Try.prog 12 [1, 1, 1, 1, 1, 0, 1, 0, 0])) (S 233 [(1, .ptr 0 0), (3, .int .i64 o30), (112, .lst (fl Tapi_Parked.enc s_0.Parked) s_0.Parked.length), (113, .int .i64 (↑s_0.Parked.length : Int)), (114, .int .i64 (↑(0 : Nat) : Int))] [{ c := (Tapi_State.enc s_0), e := 64, ext := false, fz := 0, pl := true, o := false }]) (.exit 4) (S 233 [(1, .ptr 0 0), (3, .int .i64 o53)] [{ c := (Tapi_State.enc s_0), e := 64, ext := false, fz := 0, pl := true, o := false }])), ((.ptr 0 0 : AV) = .ptr 0 0), ((.int .i64 o53 : AV) = .int .i64 o53), ((.lst (fl Tapi_Entry.enc s_0.Books.Ledger.Entries) s_0.Books.Ledger.Entries.length : AV) = .lst (fl Tapi_Entry.enc s_0.Books.Ledger.Entries) s_0.Books.Ledger.Entries.length), ((.int .i64 (↑s_0.Books.Ledger.Entries.length : Int) : AV) = .int .i64 (↑s_0.Books.Ledger.Entries.length : Int)), ((.int .i64 0 : AV) = .int .i64 (↑(0 : Nat) : Int)), (({ c := (Tapi_State.enc s_0), e := 64, ext := false, fz := 0, pl := true, o := false } : Blk) = renB [0] { c := (Tapi_State.enc s_0), e := 64, ext := false, fz := 0, pl := true, o := false }), (Does Try.prog G0 1 (.loop (bodyAt Try.prog 12 [1, 1, 1, 1, 1, 1, 0, 1, 0, 0])) (S 233 [(1, .ptr 0 0), (3, .int .i64 o53), (133, .lst (fl Tapi_Entry.enc s_0.Books.Ledger.Entries) s_0.Books.Ledger.Entries.length), (134, .int .i64 (↑s_0.Books.Ledger.Entries.length : Int)), (135, .int .i64 (↑(0 : Nat) : Int))] [{ c := (Tapi_State.enc s_0), e := 64, ext := false, fz := 0, pl := true, o := false }]) .ret (S 233 [(2, .bool true)] [{ c := (Tapi_State.enc s_0), e := 64, ext := false, fz := 0, pl := true, o := false }]))]) (by kernel_rfl) (by kernel_rfl) ⟨(decide_eq_false c1), (decide_eq_false c2), (decide_eq_false c3), (decide_eq_false c4), (decide_eq_false c5), (decide_eq_false c6), rfl, rfl, rfl, rfl, rfl, rfl, (tollwaylaw49_great_L7_does s_0 hl7), rfl, rfl, rfl, rfl, rfl, rfl, (tollwaylaw49_great_L30_does s_0 hl30), rfl, rfl, rfl, rfl, rfl, rfl, (tollwaylaw49_great_L53_does s_0 hl53), rfl, rfl, rfl, rfl, rfl, rfl, ok1 (tollwaylaw49_great_L70_does s_0 hl70)⟩
theorem tollwaylaw49_great_7 (s_0 : Tapi_State) (c1 : ¬ ((↑s_0.Seen.length : Int) > (60 : Int))) (c2 : ¬ ((↑s_0.Rejects.length : Int) > (60 : Int))) (c3 : ¬ ((↑s_0.Parked.length : Int) > (60 : Int))) (c4 : ¬ ((↑s_0.Books.Ledger.Entries.length : Int) > (60 : Int))) (c5 : ¬ ((↑s_0.Books.Done.length : Int) > (60 : Int))) (c6 : ¬ ((↑s_0.Cases.length : Int) > (60 : Int))) (o7 : Int) (hl7 : lp (tollwaylaw49_great_L7_step s_0) ((0 : Int), (0 : Nat)) = some o7) (o30 : Int) (hl30 : lp (tollwaylaw49_great_L30_step s_0) (o7, (0 : Nat)) = some o30) (o53 : Int) (hl53 : lp (tollwaylaw49_great_L53_step s_0) (o30, (0 : Nat)) = some o53) (o70 : Int) (hl70 : lp (tollwaylaw49_great_L70_step s_0) (o53, (0 : Nat)) = some (Sum.inr (o70))) (o117 : Unit) (hl117 : lp (tollwaylaw49_great_L117_step s_0) (o70, (0 : Nat)) = some (Sum.inl o117)) : Ret Try.prog G0 12 [.agg (Tapi_State.enc s_0)] (.bool true) [] :=
  Ret.of_view 400 (cs 5 ((.op none .a) :: (.op none .c) :: (.op (some false) .c) :: (cs 2 ((.op none .a) :: (cs 2 ((.op (some false) .c) :: (cs 2 ((.op none .a) :: (cs 2 ((.op (some false) .c) :: (cs 4 ((.op none .a) :: (cs 2 ((.op (some false) .c) :: (cs 3 ((.op none .a) :: (cs 2 ((.op (some false) .c) :: (cs 2 ((.op none .a) :: (.op none .c) :: (.br false) :: (cs 5 ((.fcut 1 (.exit 0) [(1, .ptr 0 0), (3, .int .i64 o7)] [{ c := (Tapi_State.enc s_0), e := 64, ext := false, fz := 0, pl := true, o := false }] [0] [(1, .ptr 0 0), (3, .int .i64 (0 : Int)), (58, .lst (fl Tapi_Seen.enc s_0.Seen) s_0.Seen.length), (59, .int .i64 (↑s_0.Seen.length : Int)), (60, .int .i64 (↑(0 : Nat) : Int))] [{ c := (Tapi_State.enc s_0), e := 64, ext := false, fz := 0, pl := true, o := false }]) :: (cs 4 ((.fcut 1 (.exit 2) [(1, .ptr 0 0), (3, .int .i64 o30)] [{ c := (Tapi_State.enc s_0), e := 64, ext := false, fz := 0, pl := true, o := false }] [0] [(1, .ptr 0 0), (3, .int .i64 o7), (85, .lst (fl Tapi_Reject.enc s_0.Rejects) s_0.Rejects.length), (86, .int .i64 (↑s_0.Rejects.length : Int)), (87, .int .i64 (↑(0 : Nat) : Int))] [{ c := (Tapi_State.enc s_0), e := 64, ext := false, fz := 0, pl := true, o := false }]) :: (cs 4 ((.fcut 1 (.exit 4) [(1, .ptr 0 0), (3, .int .i64 o53)] [{ c := (Tapi_State.enc s_0), e := 64, ext := false, fz := 0, pl := true, o := false }] [0] [(1, .ptr 0 0), (3, .int .i64 o30), (112, .lst (fl Tapi_Parked.enc s_0.Parked) s_0.Parked.length), (113, .int .i64 (↑s_0.Parked.length : Int)), (114, .int .i64 (↑(0 : Nat) : Int))] [{ c := (Tapi_State.enc s_0), e := 64, ext := false, fz := 0, pl := true, o := false }]) :: (cs 6 ((.fcut 1 (.exit 6) [(1, .ptr 0 0), (3, .int .i64 o70)] [{ c := (Tapi_State.enc s_0), e := 64, ext := false, fz := 0, pl := true, o := false }] [0] [(1, .ptr 0 0), (3, .int .i64 o53), (133, .lst (fl Tapi_Entry.enc s_0.Books.Ledger.Entries) s_0.Books.Ledger.Entries.length), (134, .int .i64 (↑s_0.Books.Ledger.Entries.length : Int)), (135, .int .i64 (↑(0 : Nat) : Int))] [{ c := (Tapi_State.enc s_0), e := 64, ext := false, fz := 0, pl := true, o := false }]) :: (cs 5 [.fcut 1 .ret [(2, .bool true)] [{ c := (Tapi_State.enc s_0), e := 64, ext := false, fz := 0, pl := true, o := false }] [0] [(1, .ptr 0 0), (3, .int .i64 o70), (166, .lst (fl Tapi_Charge.enc s_0.Books.Done) s_0.Books.Done.length), (167, .int .i64 (↑s_0.Books.Done.length : Int)), (168, .int .i64 (↑(0 : Nat) : Int))] [{ c := (Tapi_State.enc s_0), e := 64, ext := false, fz := 0, pl := true, o := false }]]))))))))))))))))))))))))))))) [] (ps := [((decide ((↑s_0.Seen.length : Int) > (60 : Int))) = false), ((decide ((↑s_0.Rejects.length : Int) > (60 : Int))) = false), ((decide ((↑s_0.Parked.length : Int) > (60 : Int))) = false), ((decide ((↑s_0.Books.Ledger.Entries.length : Int) > (60 : Int))) = false), ((decide ((↑s_0.Books.Done.length : Int) > (60 : Int))) = false), ((decide ((↑s_0.Cases.length : Int) > (60 : Int))) = false), ((.ptr 0 0 : AV) = .ptr 0 0), ((.int .i64 0 : AV) = .int .i64 (0 : Int)), ((.lst (fl Tapi_Seen.enc s_0.Seen) s_0.Seen.length : AV) = .lst (fl Tapi_Seen.enc s_0.Seen) s_0.Seen.length), ((.int .i64 (↑s_0.Seen.length : Int) : AV) = .int .i64 (↑s_0.Seen.length : Int)), ((.int .i64 0 : AV) = .int .i64 (↑(0 : Nat) : Int)), (({ c := (Tapi_State.enc s_0), e := 64, ext := false, fz := 0, pl := true, o := false } : Blk) = renB [0] { c := (Tapi_State.enc s_0), e := 64, ext := false, fz := 0, pl := true, o := false }), (Does Try.prog G0 1 (.loop (bodyAt Try.prog 12 [1, 1, 1, 0, 1, 0, 0])) (S 233 [(1, .ptr 0 0), (3, .int .i64 (0 : Int)), (58, .lst (fl Tapi_Seen.enc s_0.Seen) s_0.Seen.length), (59, .int .i64 (↑s_0.Seen.length : Int)), (60, .int .i64 (↑(0 : Nat) : Int))] [{ c := (Tapi_State.enc s_0), e := 64, ext := false, fz := 0, pl := true, o := false }]) (.exit 0) (S 233 [(1, .ptr 0 0), (3, .int .i64 o7)] [{ c := (Tapi_State.enc s_0), e := 64, ext := false, fz := 0, pl := true, o := false }])), ((.ptr 0 0 : AV) = .ptr 0 0), ((.int .i64 o7 : AV) = .int .i64 o7), ((.lst (fl Tapi_Reject.enc s_0.Rejects) s_0.Rejects.length : AV) = .lst (fl Tapi_Reject.enc s_0.Rejects) s_0.Rejects.length), ((.int .i64 (↑s_0.Rejects.length : Int) : AV) = .int .i64 (↑s_0.Rejects.length : Int)), ((.int .i64 0 : AV) = .int .i64 (↑(0 : Nat) : Int)), (({ c := (Tapi_State.enc s_0), e := 64, ext := false, fz := 0, pl := true, o := false } : Blk) = renB [0] { c := (Tapi_State.enc s_0), e := 64, ext := false, fz := 0, pl := true, o := false }), (Does Try.prog G0 1 (.loop (bodyAt Try.prog 12 [1, 1, 1, 1, 0, 1, 0, 0])) (S 233 [(1, .ptr 0 0), (3, .int .i64 o7), (85, .lst (fl Tapi_Reject.enc s_0.Rejects) s_0.Rejects.length), (86, .int .i64 (↑s_0.Rejects.length : Int)), (87, .int .i64 (↑(0 : Nat) : Int))] [{ c := (Tapi_State.enc s_0), e := 64, ext := false, fz := 0, pl := true, o := false }]) (.exit 2) (S 233 [(1, .ptr 0 0), (3, .int .i64 o30)] [{ c := (Tapi_State.enc s_0), e := 64, ext := false, fz := 0, pl := true, o := false }])), ((.ptr 0 0 : AV) = .ptr 0 0), ((.int .i64 o30 : AV) = .int .i64 o30), ((.lst (fl Tapi_Parked.enc s_0.Parked) s_0.Parked.length : AV) = .lst (fl Tapi_Parked.enc s_0.Parked) s_0.Parked.length), ((.int .i64 (↑s_0.Parked.length : Int) : AV) = .int .i64 (↑s_0.Parked.length : Int)), ((.int .i64 0 : AV) = .int .i64 (↑(0 : Nat) : Int)), (({ c := (Tapi_State.enc s_0), e := 64, ext := false, fz := 0, pl := true, o := false } : Blk) = renB [0] { c := (Tapi_State.enc s_0), e := 64, ext := false, fz := 0, pl := true, o := false }), (Does Try.prog G0 1 (.loop (bodyAt Try.prog 12 [1, 1, 1, 1, 1, 0, 1, 0, 0])) (S 233 [(1, .ptr 0 0), (3, .int .i64 o30), (112, .lst (fl Tapi_Parked.enc s_0.Parked) s_0.Parked.length), (113, .int .i64 (↑s_0.Parked.length : Int)), (114, .int .i64 (↑(0 : Nat) : Int))] [{ c := (Tapi_State.enc s_0), e := 64, ext := false, fz := 0, pl := true, o := false }]) (.exit 4) (S 233 [(1, .ptr 0 0), (3, .int .i64 o53)] [{ c := (Tapi_State.enc s_0), e := 64, ext := false, fz := 0, pl := true, o := false }])), ((.ptr 0 0 : AV) = .ptr 0 0), ((.int .i64 o53 : AV) = .int .i64 o53), ((.lst (fl Tapi_Entry.enc s_0.Books.Ledger.Entries) s_0.Books.Ledger.Entries.length : AV) = .lst (fl Tapi_Entry.enc s_0.Books.Ledger.Entries) s_0.Books.Ledger.Entries.length), ((.int .i64 (↑s_0.Books.Ledger.Entries.length : Int) : AV) = .int .i64 (↑s_0.Books.Ledger.Entries.length : Int)), ((.int .i64 0 : AV) = .int .i64 (↑(0 : Nat) : Int)), (({ c := (Tapi_State.enc s_0), e := 64, ext := false, fz := 0, pl := true, o := false } : Blk) = renB [0] { c := (Tapi_State.enc s_0), e := 64, ext := false, fz := 0, pl := true, o := false }), (Does Try.prog G0 1 (.loop (bodyAt Try.prog 12 [1, 1, 1, 1, 1, 1, 0, 1, 0, 0])) (S 233 [(1, .ptr 0 0), (3, .int .i64 o53), (133, .lst (fl Tapi_Entry.enc s_0.Books.Ledger.Entries) s_0.Books.Ledger.Entries.length), (134, .int .i64 (↑s_0.Books.Ledger.Entries.length : Int)), (135, .int .i64 (↑(0 : Nat) : Int))] [{ c := (Tapi_State.enc s_0), e := 64, ext := false, fz := 0, pl := true, o := false }]) (.exit 6) (S 233 [(1, .ptr 0 0), (3, .int .i64 o70)] [{ c := (Tapi_State.enc s_0), e := 64, ext := false, fz := 0, pl := true, o := false }])), ((.ptr 0 0 : AV) = .ptr 0 0), ((.int .i64 o70 : AV) = .int .i64 o70), ((.lst (fl Tapi_Charge.enc s_0.Books.Done) s_0.Books.Done.length : AV) = .lst (fl Tapi_Charge.enc s_0.Books.Done) s_0.Books.Done.length), ((.int .i64 (↑s_0.Books.Done.length : Int) : AV) = .int .i64 (↑s_0.Books.Done.length : Int)), ((.int .i64 0 : AV) = .int .i64 (↑(0 : Nat) : Int)), (({ c := (Tapi_State.enc s_0), e := 64, ext := false, fz := 0, pl := true, o := false } : Blk) = renB [0] { c := (Tapi_State.enc s_0), e := 64, ext := false, fz := 0, pl := true, o := false }), (Does Try.prog G0 1 (.loop (bodyAt Try.prog 12 [1, 1, 1, 1, 1, 1, 1, 0, 1, 0, 0])) (S 233 [(1, .ptr 0 0), (3, .int .i64 o70), (166, .lst (fl Tapi_Charge.enc s_0.Books.Done) s_0.Books.Done.length), (167, .int .i64 (↑s_0.Books.Done.length : Int)), (168, .int .i64 (↑(0 : Nat) : Int))] [{ c := (Tapi_State.enc s_0), e := 64, ext := false, fz := 0, pl := true, o := false }]) .ret (S 233 [(2, .bool true)] [{ c := (Tapi_State.enc s_0), e := 64, ext := false, fz := 0, pl := true, o := false }]))]) (by kernel_rfl) (by kernel_rfl) ⟨(decide_eq_false c1), (decide_eq_false c2), (decide_eq_false c3), (decide_eq_false c4), (decide_eq_false c5), (decide_eq_false c6), rfl, rfl, rfl, rfl, rfl, rfl, (tollwaylaw49_great_L7_does s_0 hl7), rfl, rfl, rfl, rfl, rfl, rfl, (tollwaylaw49_great_L30_does s_0 hl30), rfl, rfl, rfl, rfl, rfl, rfl, (tollwaylaw49_great_L53_does s_0 hl53), rfl, rfl, rfl, rfl, rfl, rfl, (tollwaylaw49_great_L70_does s_0 hl70), rfl, rfl, rfl, rfl, rfl, rfl, ok1 (tollwaylaw49_great_L117_does s_0 hl117)⟩
theorem tollwaylaw49_great_8 (s_0 : Tapi_State) (c1 : ¬ ((↑s_0.Seen.length : Int) > (60 : Int))) (c2 : ¬ ((↑s_0.Rejects.length : Int) > (60 : Int))) (c3 : ¬ ((↑s_0.Parked.length : Int) > (60 : Int))) (c4 : ¬ ((↑s_0.Books.Ledger.Entries.length : Int) > (60 : Int))) (c5 : ¬ ((↑s_0.Books.Done.length : Int) > (60 : Int))) (c6 : ¬ ((↑s_0.Cases.length : Int) > (60 : Int))) (o7 : Int) (hl7 : lp (tollwaylaw49_great_L7_step s_0) ((0 : Int), (0 : Nat)) = some o7) (o30 : Int) (hl30 : lp (tollwaylaw49_great_L30_step s_0) (o7, (0 : Nat)) = some o30) (o53 : Int) (hl53 : lp (tollwaylaw49_great_L53_step s_0) (o30, (0 : Nat)) = some o53) (o70 : Int) (hl70 : lp (tollwaylaw49_great_L70_step s_0) (o53, (0 : Nat)) = some (Sum.inr (o70))) (o117 : Int) (hl117 : lp (tollwaylaw49_great_L117_step s_0) (o70, (0 : Nat)) = some (Sum.inr (o117))) (o172 : Int) (hl172 : lp (tollwaylaw49_great_L172_step s_0) (o117, (0 : Nat)) = some o172) : Ret Try.prog G0 12 [.agg (Tapi_State.enc s_0)] (.bool (decide (o172 > (20000 : Int)))) [] :=
  Ret.of_view 400 (cs 5 ((.op none .a) :: (.op none .c) :: (.op (some false) .c) :: (cs 2 ((.op none .a) :: (cs 2 ((.op (some false) .c) :: (cs 2 ((.op none .a) :: (cs 2 ((.op (some false) .c) :: (cs 4 ((.op none .a) :: (cs 2 ((.op (some false) .c) :: (cs 3 ((.op none .a) :: (cs 2 ((.op (some false) .c) :: (cs 2 ((.op none .a) :: (.op none .c) :: (.br false) :: (cs 5 ((.fcut 1 (.exit 0) [(1, .ptr 0 0), (3, .int .i64 o7)] [{ c := (Tapi_State.enc s_0), e := 64, ext := false, fz := 0, pl := true, o := false }] [0] [(1, .ptr 0 0), (3, .int .i64 (0 : Int)), (58, .lst (fl Tapi_Seen.enc s_0.Seen) s_0.Seen.length), (59, .int .i64 (↑s_0.Seen.length : Int)), (60, .int .i64 (↑(0 : Nat) : Int))] [{ c := (Tapi_State.enc s_0), e := 64, ext := false, fz := 0, pl := true, o := false }]) :: (cs 4 ((.fcut 1 (.exit 2) [(1, .ptr 0 0), (3, .int .i64 o30)] [{ c := (Tapi_State.enc s_0), e := 64, ext := false, fz := 0, pl := true, o := false }] [0] [(1, .ptr 0 0), (3, .int .i64 o7), (85, .lst (fl Tapi_Reject.enc s_0.Rejects) s_0.Rejects.length), (86, .int .i64 (↑s_0.Rejects.length : Int)), (87, .int .i64 (↑(0 : Nat) : Int))] [{ c := (Tapi_State.enc s_0), e := 64, ext := false, fz := 0, pl := true, o := false }]) :: (cs 4 ((.fcut 1 (.exit 4) [(1, .ptr 0 0), (3, .int .i64 o53)] [{ c := (Tapi_State.enc s_0), e := 64, ext := false, fz := 0, pl := true, o := false }] [0] [(1, .ptr 0 0), (3, .int .i64 o30), (112, .lst (fl Tapi_Parked.enc s_0.Parked) s_0.Parked.length), (113, .int .i64 (↑s_0.Parked.length : Int)), (114, .int .i64 (↑(0 : Nat) : Int))] [{ c := (Tapi_State.enc s_0), e := 64, ext := false, fz := 0, pl := true, o := false }]) :: (cs 6 ((.fcut 1 (.exit 6) [(1, .ptr 0 0), (3, .int .i64 o70)] [{ c := (Tapi_State.enc s_0), e := 64, ext := false, fz := 0, pl := true, o := false }] [0] [(1, .ptr 0 0), (3, .int .i64 o53), (133, .lst (fl Tapi_Entry.enc s_0.Books.Ledger.Entries) s_0.Books.Ledger.Entries.length), (134, .int .i64 (↑s_0.Books.Ledger.Entries.length : Int)), (135, .int .i64 (↑(0 : Nat) : Int))] [{ c := (Tapi_State.enc s_0), e := 64, ext := false, fz := 0, pl := true, o := false }]) :: (cs 5 ((.fcut 1 (.exit 10) [(1, .ptr 0 0), (3, .int .i64 o117)] [{ c := (Tapi_State.enc s_0), e := 64, ext := false, fz := 0, pl := true, o := false }] [0] [(1, .ptr 0 0), (3, .int .i64 o70), (166, .lst (fl Tapi_Charge.enc s_0.Books.Done) s_0.Books.Done.length), (167, .int .i64 (↑s_0.Books.Done.length : Int)), (168, .int .i64 (↑(0 : Nat) : Int))] [{ c := (Tapi_State.enc s_0), e := 64, ext := false, fz := 0, pl := true, o := false }]) :: (cs 4 [.fcut 0 (.exit 14) [(3, .int .i64 o172)] [] [] [(3, .int .i64 o117), (208, .lst (fl Tapi_Case.enc s_0.Cases) s_0.Cases.length), (209, .int .i64 (↑s_0.Cases.length : Int)), (210, .int .i64 (↑(0 : Nat) : Int))] [], .op none .c, .op none .a, .op none .c]))))))))))))))))))))))))))))))) [] (ps := [((decide ((↑s_0.Seen.length : Int) > (60 : Int))) = false), ((decide ((↑s_0.Rejects.length : Int) > (60 : Int))) = false), ((decide ((↑s_0.Parked.length : Int) > (60 : Int))) = false), ((decide ((↑s_0.Books.Ledger.Entries.length : Int) > (60 : Int))) = false), ((decide ((↑s_0.Books.Done.length : Int) > (60 : Int))) = false), ((decide ((↑s_0.Cases.length : Int) > (60 : Int))) = false), ((.ptr 0 0 : AV) = .ptr 0 0), ((.int .i64 0 : AV) = .int .i64 (0 : Int)), ((.lst (fl Tapi_Seen.enc s_0.Seen) s_0.Seen.length : AV) = .lst (fl Tapi_Seen.enc s_0.Seen) s_0.Seen.length), ((.int .i64 (↑s_0.Seen.length : Int) : AV) = .int .i64 (↑s_0.Seen.length : Int)), ((.int .i64 0 : AV) = .int .i64 (↑(0 : Nat) : Int)), (({ c := (Tapi_State.enc s_0), e := 64, ext := false, fz := 0, pl := true, o := false } : Blk) = renB [0] { c := (Tapi_State.enc s_0), e := 64, ext := false, fz := 0, pl := true, o := false }), (Does Try.prog G0 1 (.loop (bodyAt Try.prog 12 [1, 1, 1, 0, 1, 0, 0])) (S 233 [(1, .ptr 0 0), (3, .int .i64 (0 : Int)), (58, .lst (fl Tapi_Seen.enc s_0.Seen) s_0.Seen.length), (59, .int .i64 (↑s_0.Seen.length : Int)), (60, .int .i64 (↑(0 : Nat) : Int))] [{ c := (Tapi_State.enc s_0), e := 64, ext := false, fz := 0, pl := true, o := false }]) (.exit 0) (S 233 [(1, .ptr 0 0), (3, .int .i64 o7)] [{ c := (Tapi_State.enc s_0), e := 64, ext := false, fz := 0, pl := true, o := false }])), ((.ptr 0 0 : AV) = .ptr 0 0), ((.int .i64 o7 : AV) = .int .i64 o7), ((.lst (fl Tapi_Reject.enc s_0.Rejects) s_0.Rejects.length : AV) = .lst (fl Tapi_Reject.enc s_0.Rejects) s_0.Rejects.length), ((.int .i64 (↑s_0.Rejects.length : Int) : AV) = .int .i64 (↑s_0.Rejects.length : Int)), ((.int .i64 0 : AV) = .int .i64 (↑(0 : Nat) : Int)), (({ c := (Tapi_State.enc s_0), e := 64, ext := false, fz := 0, pl := true, o := false } : Blk) = renB [0] { c := (Tapi_State.enc s_0), e := 64, ext := false, fz := 0, pl := true, o := false }), (Does Try.prog G0 1 (.loop (bodyAt Try.prog 12 [1, 1, 1, 1, 0, 1, 0, 0])) (S 233 [(1, .ptr 0 0), (3, .int .i64 o7), (85, .lst (fl Tapi_Reject.enc s_0.Rejects) s_0.Rejects.length), (86, .int .i64 (↑s_0.Rejects.length : Int)), (87, .int .i64 (↑(0 : Nat) : Int))] [{ c := (Tapi_State.enc s_0), e := 64, ext := false, fz := 0, pl := true, o := false }]) (.exit 2) (S 233 [(1, .ptr 0 0), (3, .int .i64 o30)] [{ c := (Tapi_State.enc s_0), e := 64, ext := false, fz := 0, pl := true, o := false }])), ((.ptr 0 0 : AV) = .ptr 0 0), ((.int .i64 o30 : AV) = .int .i64 o30), ((.lst (fl Tapi_Parked.enc s_0.Parked) s_0.Parked.length : AV) = .lst (fl Tapi_Parked.enc s_0.Parked) s_0.Parked.length), ((.int .i64 (↑s_0.Parked.length : Int) : AV) = .int .i64 (↑s_0.Parked.length : Int)), ((.int .i64 0 : AV) = .int .i64 (↑(0 : Nat) : Int)), (({ c := (Tapi_State.enc s_0), e := 64, ext := false, fz := 0, pl := true, o := false } : Blk) = renB [0] { c := (Tapi_State.enc s_0), e := 64, ext := false, fz := 0, pl := true, o := false }), (Does Try.prog G0 1 (.loop (bodyAt Try.prog 12 [1, 1, 1, 1, 1, 0, 1, 0, 0])) (S 233 [(1, .ptr 0 0), (3, .int .i64 o30), (112, .lst (fl Tapi_Parked.enc s_0.Parked) s_0.Parked.length), (113, .int .i64 (↑s_0.Parked.length : Int)), (114, .int .i64 (↑(0 : Nat) : Int))] [{ c := (Tapi_State.enc s_0), e := 64, ext := false, fz := 0, pl := true, o := false }]) (.exit 4) (S 233 [(1, .ptr 0 0), (3, .int .i64 o53)] [{ c := (Tapi_State.enc s_0), e := 64, ext := false, fz := 0, pl := true, o := false }])), ((.ptr 0 0 : AV) = .ptr 0 0), ((.int .i64 o53 : AV) = .int .i64 o53), ((.lst (fl Tapi_Entry.enc s_0.Books.Ledger.Entries) s_0.Books.Ledger.Entries.length : AV) = .lst (fl Tapi_Entry.enc s_0.Books.Ledger.Entries) s_0.Books.Ledger.Entries.length), ((.int .i64 (↑s_0.Books.Ledger.Entries.length : Int) : AV) = .int .i64 (↑s_0.Books.Ledger.Entries.length : Int)), ((.int .i64 0 : AV) = .int .i64 (↑(0 : Nat) : Int)), (({ c := (Tapi_State.enc s_0), e := 64, ext := false, fz := 0, pl := true, o := false } : Blk) = renB [0] { c := (Tapi_State.enc s_0), e := 64, ext := false, fz := 0, pl := true, o := false }), (Does Try.prog G0 1 (.loop (bodyAt Try.prog 12 [1, 1, 1, 1, 1, 1, 0, 1, 0, 0])) (S 233 [(1, .ptr 0 0), (3, .int .i64 o53), (133, .lst (fl Tapi_Entry.enc s_0.Books.Ledger.Entries) s_0.Books.Ledger.Entries.length), (134, .int .i64 (↑s_0.Books.Ledger.Entries.length : Int)), (135, .int .i64 (↑(0 : Nat) : Int))] [{ c := (Tapi_State.enc s_0), e := 64, ext := false, fz := 0, pl := true, o := false }]) (.exit 6) (S 233 [(1, .ptr 0 0), (3, .int .i64 o70)] [{ c := (Tapi_State.enc s_0), e := 64, ext := false, fz := 0, pl := true, o := false }])), ((.ptr 0 0 : AV) = .ptr 0 0), ((.int .i64 o70 : AV) = .int .i64 o70), ((.lst (fl Tapi_Charge.enc s_0.Books.Done) s_0.Books.Done.length : AV) = .lst (fl Tapi_Charge.enc s_0.Books.Done) s_0.Books.Done.length), ((.int .i64 (↑s_0.Books.Done.length : Int) : AV) = .int .i64 (↑s_0.Books.Done.length : Int)), ((.int .i64 0 : AV) = .int .i64 (↑(0 : Nat) : Int)), (({ c := (Tapi_State.enc s_0), e := 64, ext := false, fz := 0, pl := true, o := false } : Blk) = renB [0] { c := (Tapi_State.enc s_0), e := 64, ext := false, fz := 0, pl := true, o := false }), (Does Try.prog G0 1 (.loop (bodyAt Try.prog 12 [1, 1, 1, 1, 1, 1, 1, 0, 1, 0, 0])) (S 233 [(1, .ptr 0 0), (3, .int .i64 o70), (166, .lst (fl Tapi_Charge.enc s_0.Books.Done) s_0.Books.Done.length), (167, .int .i64 (↑s_0.Books.Done.length : Int)), (168, .int .i64 (↑(0 : Nat) : Int))] [{ c := (Tapi_State.enc s_0), e := 64, ext := false, fz := 0, pl := true, o := false }]) (.exit 10) (S 233 [(1, .ptr 0 0), (3, .int .i64 o117)] [{ c := (Tapi_State.enc s_0), e := 64, ext := false, fz := 0, pl := true, o := false }])), ((.int .i64 o117 : AV) = .int .i64 o117), ((.lst (fl Tapi_Case.enc s_0.Cases) s_0.Cases.length : AV) = .lst (fl Tapi_Case.enc s_0.Cases) s_0.Cases.length), ((.int .i64 (↑s_0.Cases.length : Int) : AV) = .int .i64 (↑s_0.Cases.length : Int)), ((.int .i64 0 : AV) = .int .i64 (↑(0 : Nat) : Int)), (Does Try.prog G0 0 (.loop (bodyAt Try.prog 12 [1, 1, 1, 1, 1, 1, 1, 1, 0, 1, 0, 0])) (S 233 [(3, .int .i64 o117), (208, .lst (fl Tapi_Case.enc s_0.Cases) s_0.Cases.length), (209, .int .i64 (↑s_0.Cases.length : Int)), (210, .int .i64 (↑(0 : Nat) : Int))] []) (.exit 14) (S 233 [(3, .int .i64 o172)] []))]) (by kernel_rfl) (by kernel_rfl) ⟨(decide_eq_false c1), (decide_eq_false c2), (decide_eq_false c3), (decide_eq_false c4), (decide_eq_false c5), (decide_eq_false c6), rfl, rfl, rfl, rfl, rfl, rfl, (tollwaylaw49_great_L7_does s_0 hl7), rfl, rfl, rfl, rfl, rfl, rfl, (tollwaylaw49_great_L30_does s_0 hl30), rfl, rfl, rfl, rfl, rfl, rfl, (tollwaylaw49_great_L53_does s_0 hl53), rfl, rfl, rfl, rfl, rfl, rfl, (tollwaylaw49_great_L70_does s_0 hl70), rfl, rfl, rfl, rfl, rfl, rfl, (tollwaylaw49_great_L117_does s_0 hl117), rfl, rfl, rfl, rfl, ok1 (tollwaylaw49_great_L172_does s_0 hl172)⟩
theorem tollwaylaw49_great_ret (s_0 : Tapi_State) (r : Bool) (h : tollwaylaw49_great s_0 = some r) : Ret Try.prog G0 12 [.agg (Tapi_State.enc s_0)] (.bool r) [] := by
  unfold tollwaylaw49_great at h
  rcases ite_some h with ⟨c1, h⟩ | ⟨c1, h⟩
  · simp only [Option.some.injEq] at h
    subst h
    exact tollwaylaw49_great_0 s_0 c1
  · rcases ite_some h with ⟨c2, h⟩ | ⟨c2, h⟩
    · simp only [Option.some.injEq] at h
      subst h
      exact tollwaylaw49_great_1 s_0 c1 c2
    · rcases ite_some h with ⟨c3, h⟩ | ⟨c3, h⟩
      · simp only [Option.some.injEq] at h
        subst h
        exact tollwaylaw49_great_2 s_0 c1 c2 c3
      · rcases ite_some h with ⟨c4, h⟩ | ⟨c4, h⟩
        · simp only [Option.some.injEq] at h
          subst h
          exact tollwaylaw49_great_3 s_0 c1 c2 c3 c4
        · rcases ite_some h with ⟨c5, h⟩ | ⟨c5, h⟩
          · simp only [Option.some.injEq] at h
            subst h
            exact tollwaylaw49_great_4 s_0 c1 c2 c3 c4 c5
          · rcases ite_some h with ⟨c6, h⟩ | ⟨c6, h⟩
            · simp only [Option.some.injEq] at h
              subst h
              exact tollwaylaw49_great_5 s_0 c1 c2 c3 c4 c5 c6
            · obtain ⟨o7, hl7, h⟩ := bind_some h
              obtain ⟨o30, hl30, h⟩ := bind_some h
              obtain ⟨o53, hl53, h⟩ := bind_some h
              obtain ⟨qq, hl70, h⟩ := bind_some h
              rcases qq with o70 | o70
              · dsimp only at h
                simp only [Option.some.injEq] at h
                subst h
                exact tollwaylaw49_great_6 s_0 c1 c2 c3 c4 c5 c6 o7 hl7 o30 hl30 o53 hl53 o70 hl70
              · dsimp only at h
                obtain ⟨qq, hl117, h⟩ := bind_some h
                rcases qq with o117 | o117
                · dsimp only at h
                  simp only [Option.some.injEq] at h
                  subst h
                  exact tollwaylaw49_great_7 s_0 c1 c2 c3 c4 c5 c6 o7 hl7 o30 hl30 o53 hl53 o70 hl70 o117 hl117
                · dsimp only at h
                  obtain ⟨o172, hl172, h⟩ := bind_some h
                  simp only [Option.some.injEq] at h
                  subst h
                  exact tollwaylaw49_great_8 s_0 c1 c2 c3 c4 c5 c6 o7 hl7 o30 hl30 o53 hl53 o70 hl70 o117 hl117 o172 hl172
end Go.Proofs.Yteljonodbkkckaa.Av
