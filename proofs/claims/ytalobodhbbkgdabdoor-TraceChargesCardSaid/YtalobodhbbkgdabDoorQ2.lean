import Derived.Test.YtalobodhbbkgdabDoorAvX
import Derived.Test.YtalobodhbbkgdabDoorProg
import Derived.Tactics
import Derived.Test.YtalobodhbbkgdabDoorQ1
set_option linter.unusedVariables false
set_option linter.unusedSimpArgs false
set_option maxHeartbeats 4000000
namespace Go.Proofs.YtalobodhbbkgdabDoor.Av
open Go Go.Proofs
noncomputable def tollwayref01_Format_L2_step (n_0 : Int) : ((List UInt8) × Int) → Option (((List UInt8) × Int) ⊕ (List UInt8))
  | (v3, v4) =>
    if v4 = (0 : Int) then
      some (Sum.inr v3)
    else
      if (Int.tmod v4 10) < (0 : Int) then
        if InR .i64 (0 - (Int.tmod v4 10)) then
          if InR .i64 ((0 - (Int.tmod v4 10)) + 1) then
            if (0 : Int) ≤ (0 - (Int.tmod v4 10)) then
              if (0 : Int) ≤ ((0 - (Int.tmod v4 10)) + 1) then
                if (Int.toNat (0 - (Int.tmod v4 10))) ≤ (Int.toNat ((0 - (Int.tmod v4 10)) + 1)) then
                  if (Int.toNat ((0 - (Int.tmod v4 10)) + 1)) ≤ 10 then
                    (some ((List.drop (Int.toNat (0 - (Int.tmod v4 10))) (List.take (Int.toNat ((0 - (Int.tmod v4 10)) + 1)) ([48, 49, 50, 51, 52, 53, 54, 55, 56, 57] : List UInt8))))).bind fun s32 =>
                    if s32.length + v3.length ≤ 9223372036854775807 then
                      if InR .i64 (Int.tdiv v4 10) then
                        some (Sum.inl (s32 ++ v3, (Int.tdiv v4 10)))
                      else none
                    else none
                  else none
                else none
              else none
            else none
          else none
        else none
      else
        if InR .i64 ((Int.tmod v4 10) + 1) then
          if (0 : Int) ≤ (Int.tmod v4 10) then
            if (0 : Int) ≤ ((Int.tmod v4 10) + 1) then
              if (Int.toNat (Int.tmod v4 10)) ≤ (Int.toNat ((Int.tmod v4 10) + 1)) then
                if (Int.toNat ((Int.tmod v4 10) + 1)) ≤ 10 then
                  (some ((List.drop (Int.toNat (Int.tmod v4 10)) (List.take (Int.toNat ((Int.tmod v4 10) + 1)) ([48, 49, 50, 51, 52, 53, 54, 55, 56, 57] : List UInt8))))).bind fun s41 =>
                  if s41.length + v3.length ≤ 9223372036854775807 then
                    if InR .i64 (Int.tdiv v4 10) then
                      some (Sum.inl (s41 ++ v3, (Int.tdiv v4 10)))
                    else none
                  else none
                else none
              else none
            else none
          else none
        else none
def tollwayref01_Format_L2_H (n_0 : Int) : ((List UInt8) × Int) → St := fun (s : ((List UInt8) × Int)) => S 30 [(0, .int .i64 n_0), (3, .str s.1), (4, .int .i64 s.2)] []
theorem tollwayref01_Format_L2_0 (n_0 : Int) (v3 : (List UInt8)) (v4 : Int) (c24 : v4 = (0 : Int)) : Does Tryd.prog GT 0 (bodyAt Tryd.prog 56 [1, 1, 1, 0, 1, 0, 0]) (tollwayref01_Format_L2_H n_0 (v3, v4)) (.exit 0) (S 30 [(0, .int .i64 n_0), (3, .str v3)] []) :=
  Does.of_viewM 0 400 [.op none .c, .op none .a, .br false] [] (ps := [((!(v4 == (0 : Int))) = false)]) (by kernel_rfl) (by kernel_rfl) (ok1 (not_f (beq_t c24)))
theorem tollwayref01_Format_L2_1 (n_0 : Int) (v3 : (List UInt8)) (v4 : Int) (c24 : ¬ (v4 = (0 : Int))) (c25 : (Int.tmod v4 10) < (0 : Int)) (h26 : InR .i64 (0 - (Int.tmod v4 10))) (h27 : InR .i64 ((0 - (Int.tmod v4 10)) + 1)) (h28 : (0 : Int) ≤ (0 - (Int.tmod v4 10))) (h29 : (0 : Int) ≤ ((0 - (Int.tmod v4 10)) + 1)) (h30 : (Int.toNat (0 - (Int.tmod v4 10))) ≤ (Int.toNat ((0 - (Int.tmod v4 10)) + 1))) (h31 : (Int.toNat ((0 - (Int.tmod v4 10)) + 1)) ≤ 10) (s32 : (List UInt8)) (h33 : some ((List.drop (Int.toNat (0 - (Int.tmod v4 10))) (List.take (Int.toNat ((0 - (Int.tmod v4 10)) + 1)) ([48, 49, 50, 51, 52, 53, 54, 55, 56, 57] : List UInt8)))) = some s32) (h34 : s32.length + v3.length ≤ 9223372036854775807) (h35 : InR .i64 (Int.tdiv v4 10)) : Does Tryd.prog GT 0 (bodyAt Tryd.prog 56 [1, 1, 1, 0, 1, 0, 0]) (tollwayref01_Format_L2_H n_0 (v3, v4)) .normal (S 30 [(0, .int .i64 n_0), (3, .str (s32 ++ v3)), (4, .int .i64 (Int.tdiv v4 10))] []) :=
  Does.of_viewM 0 400 ((.op none .c) :: (.op none .a) :: (.br true) :: (.op none .c) :: (.op none .a) :: (cs 2 ((.op none .a) :: (.br true) :: (.op none .c) :: (.op none .w) :: (cs 3 ((.op none .w) :: (.op none (.s (Int.toNat (0 - (Int.tmod v4 10))) (Int.toNat ((0 - (Int.tmod v4 10)) + 1)))) :: (.tr (.eqt (.t 22) (.str s32))) :: (.op none .c) :: (.op none .a) :: (cs 2 [.op none .w, .op none .c])))))) [] (ps := [((!(v4 == (0 : Int))) = true), (10 ≠ (0 : Int)), ((decide ((Int.tmod v4 10) < (0 : Int))) = true), (IntKind.min .i64 ≤ (0 - (Int.tmod v4 10)) ∧ (0 - (Int.tmod v4 10)) ≤ IntKind.max .i64), (IntKind.min .i64 ≤ ((0 - (Int.tmod v4 10)) + 1) ∧ ((0 - (Int.tmod v4 10)) + 1) ≤ IntKind.max .i64), (((0 - (Int.tmod v4 10)) + 1) = (((Int.toNat ((0 - (Int.tmod v4 10)) + 1)) : Nat) : Int)), ((0 - (Int.tmod v4 10)) = (((Int.toNat (0 - (Int.tmod v4 10))) : Nat) : Int)), ((Int.toNat (0 - (Int.tmod v4 10))) ≤ (Int.toNat ((0 - (Int.tmod v4 10)) + 1)) ∧ (Int.toNat ((0 - (Int.tmod v4 10)) + 1)) ≤ 10), ((.str (List.drop (Int.toNat (0 - (Int.tmod v4 10))) (List.take (Int.toNat ((0 - (Int.tmod v4 10)) + 1)) ([48, 49, 50, 51, 52, 53, 54, 55, 56, 57] : List UInt8))) : AV) = .str s32), (s32.length + v3.length ≤ 9223372036854775807), (10 ≠ (0 : Int)), (IntKind.min .i64 ≤ (Int.tdiv v4 10) ∧ (Int.tdiv v4 10) ≤ IntKind.max .i64)]) (by kernel_rfl) (by kernel_rfl) ⟨(not_t (beq_f c24)), (by decide), (decide_eq_true c25), h26, h27, (Int.toNat_of_nonneg h29).symm, (Int.toNat_of_nonneg h28).symm, ⟨h30, h31⟩, (congrArg _ (Option.some.inj h33)), h34, (by decide), ok1 h35⟩
theorem tollwayref01_Format_L2_2 (n_0 : Int) (v3 : (List UInt8)) (v4 : Int) (c24 : ¬ (v4 = (0 : Int))) (c25 : ¬ ((Int.tmod v4 10) < (0 : Int))) (h36 : InR .i64 ((Int.tmod v4 10) + 1)) (h37 : (0 : Int) ≤ (Int.tmod v4 10)) (h38 : (0 : Int) ≤ ((Int.tmod v4 10) + 1)) (h39 : (Int.toNat (Int.tmod v4 10)) ≤ (Int.toNat ((Int.tmod v4 10) + 1))) (h40 : (Int.toNat ((Int.tmod v4 10) + 1)) ≤ 10) (s41 : (List UInt8)) (h42 : some ((List.drop (Int.toNat (Int.tmod v4 10)) (List.take (Int.toNat ((Int.tmod v4 10) + 1)) ([48, 49, 50, 51, 52, 53, 54, 55, 56, 57] : List UInt8)))) = some s41) (h43 : s41.length + v3.length ≤ 9223372036854775807) (h44 : InR .i64 (Int.tdiv v4 10)) : Does Tryd.prog GT 0 (bodyAt Tryd.prog 56 [1, 1, 1, 0, 1, 0, 0]) (tollwayref01_Format_L2_H n_0 (v3, v4)) .normal (S 30 [(0, .int .i64 n_0), (3, .str (s41 ++ v3)), (4, .int .i64 (Int.tdiv v4 10))] []) :=
  Does.of_viewM 0 400 ((.op none .c) :: (.op none .a) :: (.br true) :: (.op none .c) :: (.op none .a) :: (cs 2 ((.op none .a) :: (.br false) :: (cs 2 ((.op none .w) :: (.op none (.s (Int.toNat (Int.tmod v4 10)) (Int.toNat ((Int.tmod v4 10) + 1)))) :: (.tr (.eqt (.t 22) (.str s41))) :: (.op none .c) :: (.op none .a) :: (cs 2 [.op none .w, .op none .c])))))) [] (ps := [((!(v4 == (0 : Int))) = true), (10 ≠ (0 : Int)), ((decide ((Int.tmod v4 10) < (0 : Int))) = false), (IntKind.min .i64 ≤ ((Int.tmod v4 10) + 1) ∧ ((Int.tmod v4 10) + 1) ≤ IntKind.max .i64), (((Int.tmod v4 10) + 1) = (((Int.toNat ((Int.tmod v4 10) + 1)) : Nat) : Int)), ((Int.tmod v4 10) = (((Int.toNat (Int.tmod v4 10)) : Nat) : Int)), ((Int.toNat (Int.tmod v4 10)) ≤ (Int.toNat ((Int.tmod v4 10) + 1)) ∧ (Int.toNat ((Int.tmod v4 10) + 1)) ≤ 10), ((.str (List.drop (Int.toNat (Int.tmod v4 10)) (List.take (Int.toNat ((Int.tmod v4 10) + 1)) ([48, 49, 50, 51, 52, 53, 54, 55, 56, 57] : List UInt8))) : AV) = .str s41), (s41.length + v3.length ≤ 9223372036854775807), (10 ≠ (0 : Int)), (IntKind.min .i64 ≤ (Int.tdiv v4 10) ∧ (Int.tdiv v4 10) ≤ IntKind.max .i64)]) (by kernel_rfl) (by kernel_rfl) ⟨(not_t (beq_f c24)), (by decide), (decide_eq_false c25), h36, (Int.toNat_of_nonneg h38).symm, (Int.toNat_of_nonneg h37).symm, ⟨h39, h40⟩, (congrArg _ (Option.some.inj h42)), h43, (by decide), ok1 h44⟩
def tollwayref01_Format_L2_X (n_0 : Int) : (List UInt8) → AEx := fun o => (.exit 0)
def tollwayref01_Format_L2_E (n_0 : Int) : (List UInt8) → St := fun o => S 30 [(0, .int .i64 n_0), (3, .str o)] []
theorem tollwayref01_Format_L2_does (n_0 : Int) {s : ((List UInt8) × Int)} {r : (List UInt8)} (h : lp (tollwayref01_Format_L2_step n_0) s = some r) : Does Tryd.prog GT 0 (.loop (bodyAt Tryd.prog 56 [1, 1, 1, 0, 1, 0, 0])) (tollwayref01_Format_L2_H n_0 s) (tollwayref01_Format_L2_X n_0 r) (tollwayref01_Format_L2_E n_0 r) := by
  refine Does.lp (H := tollwayref01_Format_L2_H n_0) (X := tollwayref01_Format_L2_X n_0) (E := tollwayref01_Format_L2_E n_0) (fun s s2 h => ?_) (fun s r h => ?_) h
  · obtain ⟨v3, v4⟩ := s
    unfold tollwayref01_Format_L2_step at h
    try dsimp only at h
    rcases ite_some h with ⟨c24, h⟩ | ⟨c24, h⟩
    · simp at h
    · rcases ite_some h with ⟨c25, h⟩ | ⟨c25, h⟩
      · obtain ⟨h26, h⟩ := guard_some h
        obtain ⟨h27, h⟩ := guard_some h
        obtain ⟨h28, h⟩ := guard_some h
        obtain ⟨h29, h⟩ := guard_some h
        obtain ⟨h30, h⟩ := guard_some h
        obtain ⟨h31, h⟩ := guard_some h
        obtain ⟨s32, h33, h⟩ := bind_some h
        obtain ⟨h34, h⟩ := guard_some h
        obtain ⟨h35, h⟩ := guard_some h
        simp only [Option.some.injEq, Sum.inl.injEq] at h
        subst h
        have hq := tollwayref01_Format_L2_1 n_0 v3 v4 c24 c25 h26 h27 h28 h29 h30 h31 s32 h33 h34 h35
        first | exact hq | exact Eq.mp (by simp only [tollwayref01_Format_L2_H, List.length_set] <;> rfl) hq
      · obtain ⟨h36, h⟩ := guard_some h
        obtain ⟨h37, h⟩ := guard_some h
        obtain ⟨h38, h⟩ := guard_some h
        obtain ⟨h39, h⟩ := guard_some h
        obtain ⟨h40, h⟩ := guard_some h
        obtain ⟨s41, h42, h⟩ := bind_some h
        obtain ⟨h43, h⟩ := guard_some h
        obtain ⟨h44, h⟩ := guard_some h
        simp only [Option.some.injEq, Sum.inl.injEq] at h
        subst h
        have hq := tollwayref01_Format_L2_2 n_0 v3 v4 c24 c25 h36 h37 h38 h39 h40 s41 h42 h43 h44
        first | exact hq | exact Eq.mp (by simp only [tollwayref01_Format_L2_H, List.length_set] <;> rfl) hq
  · obtain ⟨v3, v4⟩ := s
    unfold tollwayref01_Format_L2_step at h
    try dsimp only at h
    rcases ite_some h with ⟨c24, h⟩ | ⟨c24, h⟩
    · simp only [Option.some.injEq, Sum.inr.injEq] at h
      subst h
      exact ⟨tollwayref01_Format_L2_0 n_0 v3 v4 c24, by intro q; cases q⟩
    · rcases ite_some h with ⟨c25, h⟩ | ⟨c25, h⟩
      · obtain ⟨h26, h⟩ := guard_some h
        obtain ⟨h27, h⟩ := guard_some h
        obtain ⟨h28, h⟩ := guard_some h
        obtain ⟨h29, h⟩ := guard_some h
        obtain ⟨h30, h⟩ := guard_some h
        obtain ⟨h31, h⟩ := guard_some h
        obtain ⟨s32, h33, h⟩ := bind_some h
        obtain ⟨h34, h⟩ := guard_some h
        obtain ⟨h35, h⟩ := guard_some h
        simp at h
      · obtain ⟨h36, h⟩ := guard_some h
        obtain ⟨h37, h⟩ := guard_some h
        obtain ⟨h38, h⟩ := guard_some h
        obtain ⟨h39, h⟩ := guard_some h
        obtain ⟨h40, h⟩ := guard_some h
        obtain ⟨s41, h42, h⟩ := bind_some h
        obtain ⟨h43, h⟩ := guard_some h
        obtain ⟨h44, h⟩ := guard_some h
        simp at h
noncomputable def tollwayref01_Format (n_0 : Int) : Option (List UInt8) :=
  if n_0 = (0 : Int) then
    some ([48] : List UInt8)
  else
    (lp (tollwayref01_Format_L2_step n_0) (([] : List UInt8), n_0)).bind fun o2 =>
    if n_0 < (0 : Int) then
      if ([45] : List UInt8).length + o2.length ≤ 9223372036854775807 then
        some (([45] : List UInt8) ++ o2)
      else none
    else
      some o2
def tollwayref01_Format_h1  : List CH := (cs 2 [.op none .a])
def tollwayref01_Format_h2 (n_0 : Int) (o2 : (List UInt8)) : List CH := ((.br false) :: (cs 3 [.fcut 0 (.exit 0) [(0, .int .i64 n_0), (3, .str o2)] [] [] [(0, .int .i64 n_0), (3, .str ([] : List UInt8)), (4, .int .i64 n_0)] [], .op none .c, .op none .a]))
def tollwayref01_Format_p3 (n_0 : Int) (o2 : (List UInt8)) : List Prop := [((n_0 == (0 : Int)) = false), ((.int .i64 n_0 : AV) = .int .i64 n_0), ((.str [] : AV) = .str ([] : List UInt8)), ((.int .i64 n_0 : AV) = .int .i64 n_0), (Does Tryd.prog GT 0 (.loop (bodyAt Tryd.prog 56 [1, 1, 1, 0, 1, 0, 0])) (S 30 [(0, .int .i64 n_0), (3, .str ([] : List UInt8)), (4, .int .i64 n_0)] []) (.exit 0) (S 30 [(0, .int .i64 n_0), (3, .str o2)] []))]
theorem tollwayref01_Format_p3q (n_0 : Int) (c1 : ¬ (n_0 = (0 : Int))) (o2 : (List UInt8)) (hl2 : lp (tollwayref01_Format_L2_step n_0) (([] : List UInt8), n_0) = some o2) : allOk (tollwayref01_Format_p3 n_0 o2) := ⟨(beq_f c1), rfl, rfl, rfl, ok1 (tollwayref01_Format_L2_does n_0 hl2)⟩
theorem tollwayref01_Format_0 (n_0 : Int) (c1 : n_0 = (0 : Int)) : Ret Tryd.prog GT 56 [.int .i64 n_0] (.str [48]) [] :=
  Ret.of_view 400 ((tollwayref01_Format_h1) ++ [.br true, .op none .c]) [] (ps := [((n_0 == (0 : Int)) = true)]) (by kernel_rfl) (by kernel_rfl) (ok1 (beq_t c1))
theorem tollwayref01_Format_1 (n_0 : Int) (c1 : ¬ (n_0 = (0 : Int))) (o2 : (List UInt8)) (hl2 : lp (tollwayref01_Format_L2_step n_0) (([] : List UInt8), n_0) = some o2) (c45 : n_0 < (0 : Int)) (h46 : ([45] : List UInt8).length + o2.length ≤ 9223372036854775807) : Ret Tryd.prog GT 56 [.int .i64 n_0] (.str (([45] : List UInt8) ++ o2)) [] :=
  Ret.of_view 400 ((tollwayref01_Format_h1) ++ ((tollwayref01_Format_h2 n_0 o2) ++ ((.br true) :: (.op none .c) :: (.op none .a) :: (cs 3 [])))) [] (ps := ((tollwayref01_Format_p3 n_0 o2) ++ [((decide (n_0 < (0 : Int))) = true), (([45] : List UInt8).length + o2.length ≤ 9223372036854775807)])) (by kernel_rfl) (by kernel_rfl) (allOk_append.2 ⟨(tollwayref01_Format_p3q n_0 c1 o2 hl2), ⟨(decide_eq_true c45), ok1 h46⟩⟩)
theorem tollwayref01_Format_2 (n_0 : Int) (c1 : ¬ (n_0 = (0 : Int))) (o2 : (List UInt8)) (hl2 : lp (tollwayref01_Format_L2_step n_0) (([] : List UInt8), n_0) = some o2) (c45 : ¬ (n_0 < (0 : Int))) : Ret Tryd.prog GT 56 [.int .i64 n_0] (.str o2) [] :=
  Ret.of_view 400 ((tollwayref01_Format_h1) ++ ((tollwayref01_Format_h2 n_0 o2) ++ ((.br false) :: (cs 2 [])))) [] (ps := ((tollwayref01_Format_p3 n_0 o2) ++ [((decide (n_0 < (0 : Int))) = false)])) (by kernel_rfl) (by kernel_rfl) (allOk_append.2 ⟨(tollwayref01_Format_p3q n_0 c1 o2 hl2), (ok1 (decide_eq_false c45))⟩)
theorem tollwayref01_Format_ret (n_0 : Int) (r : (List UInt8)) (h : tollwayref01_Format n_0 = some r) : Ret Tryd.prog GT 56 [.int .i64 n_0] (.str r) [] := by
  unfold tollwayref01_Format at h
  rcases ite_some h with ⟨c1, h⟩ | ⟨c1, h⟩
  · simp only [Option.some.injEq] at h
    subst h
    exact tollwayref01_Format_0 n_0 c1
  · obtain ⟨o2, hl2, h⟩ := bind_some h
    rcases ite_some h with ⟨c45, h⟩ | ⟨c45, h⟩
    · obtain ⟨h46, h⟩ := guard_some h
      simp only [Option.some.injEq] at h
      subst h
      exact tollwayref01_Format_1 n_0 c1 o2 hl2 c45 h46
    · simp only [Option.some.injEq] at h
      subst h
      exact tollwayref01_Format_2 n_0 c1 o2 hl2 c45
noncomputable def tollwayref52_key (x_0 : Tapi_Source) : Option (List UInt8) :=
  if x_0.Device.length + ([46] : List UInt8).length ≤ 9223372036854775807 then
    (tollwayref01_Format x_0.Seq).bind fun r2 =>
    if (x_0.Device ++ ([46] : List UInt8)).length + r2.length ≤ 9223372036854775807 then
      some ((x_0.Device ++ ([46] : List UInt8)) ++ r2)
    else none
  else none
theorem tollwayref52_key_0 (x_0 : Tapi_Source) (h1 : x_0.Device.length + ([46] : List UInt8).length ≤ 9223372036854775807) (r2 : (List UInt8)) (h3 : tollwayref01_Format x_0.Seq = some r2) (h4 : (x_0.Device ++ ([46] : List UInt8)).length + r2.length ≤ 9223372036854775807) : Ret Tryd.prog GT 26 [.agg (Tapi_Source.enc x_0)] (.str ((x_0.Device ++ ([46] : List UInt8)) ++ r2)) [] :=
  Ret.of_view 400 (cs 4 ((.op none .a) :: (cs 2 [.ret none [.int .i64 x_0.Seq] (.str r2) [], .op none .a, .op none .c]))) [] (ps := [(x_0.Device.length + ([46] : List UInt8).length ≤ 9223372036854775807), ((.int .i64 x_0.Seq : AV) = .int .i64 x_0.Seq), (Ret Tryd.prog GT 56 [.int .i64 x_0.Seq] (.str r2) []), ((x_0.Device ++ ([46] : List UInt8)).length + r2.length ≤ 9223372036854775807)]) (by kernel_rfl) (by kernel_rfl) ⟨h1, rfl, (tollwayref01_Format_ret x_0.Seq r2 h3), ok1 h4⟩
theorem tollwayref52_key_ret (x_0 : Tapi_Source) (r : (List UInt8)) (h : tollwayref52_key x_0 = some r) : Ret Tryd.prog GT 26 [.agg (Tapi_Source.enc x_0)] (.str r) [] := by
  unfold tollwayref52_key at h
  obtain ⟨h1, h⟩ := guard_some h
  obtain ⟨r2, h3, h⟩ := bind_some h
  obtain ⟨h4, h⟩ := guard_some h
  simp only [Option.some.injEq] at h
  subst h
  exact tollwayref52_key_0 x_0 h1 r2 h3 h4
noncomputable def tollwayref52_Same_L2_step (a_0 : (List Tapi_Fact)) (b_1 : (List Tapi_Fact)) : Nat → Option (Nat ⊕ (Unit ⊕ Unit)) := fun k5 =>
  if (↑k5 : Int) < (↑a_0.length : Int) then
    (a_0[k5]?).bind fun x11 =>
    (b_1[k5]?).bind fun x13 =>
    if ((x11.Kind == x13.Kind) && ((x11.Key == x13.Key) && ((x11.Why == x13.Why) && true))) = true then
      if InR .i64 ((↑k5 : Int) + 1) then
        some (Sum.inl (k5 + 1))
      else none
    else
      some (Sum.inr (Sum.inl ()))
  else
    some (Sum.inr (Sum.inr (())))
def tollwayref52_Same_L2_H (a_0 : (List Tapi_Fact)) (b_1 : (List Tapi_Fact)) : Nat → St := fun (s : Nat) => S 26 [(0, .lst (fl Tapi_Fact.enc a_0) a_0.length), (1, .lst (fl Tapi_Fact.enc b_1) b_1.length), (5, .int .i64 (↑s : Int))] []
theorem tollwayref52_Same_L2_0 (a_0 : (List Tapi_Fact)) (b_1 : (List Tapi_Fact)) (k5 : Nat) (c10 : (↑k5 : Int) < (↑a_0.length : Int)) (x11 : Tapi_Fact) (h12 : a_0[k5]? = some x11) (x13 : Tapi_Fact) (h14 : b_1[k5]? = some x13) (c15 : ((x11.Kind == x13.Kind) && ((x11.Key == x13.Key) && ((x11.Why == x13.Why) && true))) = true) (h16 : InR .i64 ((↑k5 : Int) + 1)) : Does Tryd.prog GT 0 (bodyAt Tryd.prog 11 [1, 1, 0, 1, 0, 0]) (tollwayref52_Same_L2_H a_0 b_1 k5) .normal (S 26 [(0, .lst (fl Tapi_Fact.enc a_0) a_0.length), (1, .lst (fl Tapi_Fact.enc b_1) b_1.length), (5, .int .i64 ((↑k5 : Int) + 1))] []) :=
  Does.of_viewM 0 400 (cs 3 ((.op none .a) :: (.br true) :: (cs 2 ((.op none (.i k5)) :: (.op none (.v [.str x11.Kind, .str x11.Key, .int .i64 x11.Why])) :: (cs 2 [.op none (.i k5), .op none (.v [.str x13.Kind, .str x13.Key, .int .i64 x13.Why]), .op none .c, .br false, .op none .c, .op none .w, .op none .c]))))) [] (ps := [((decide ((↑k5 : Int) < (↑a_0.length : Int))) = true), ((↑k5 : Int) = ((k5 : Nat) : Int) ∧ k5 < a_0.length), ((fl Tapi_Fact.enc a_0) ≠ []), (sub (fl Tapi_Fact.enc a_0) (k5 * 3) 3 = [.str x11.Kind, .str x11.Key, .int .i64 x11.Why]), ((↑k5 : Int) = ((k5 : Nat) : Int) ∧ k5 < b_1.length), ((fl Tapi_Fact.enc b_1) ≠ []), (sub (fl Tapi_Fact.enc b_1) (k5 * 3) 3 = [.str x13.Kind, .str x13.Key, .int .i64 x13.Why]), ((!((x11.Kind == x13.Kind) && ((x11.Key == x13.Key) && ((x11.Why == x13.Why) && true)))) = false), (IntKind.min .i64 ≤ ((↑k5 : Int) + 1) ∧ ((↑k5 : Int) + 1) ≤ IntKind.max .i64)]) (by kernel_rfl) (by kernel_rfl) ⟨(decide_eq_true c10), ⟨rfl, get_lt h12⟩, (fl_ne (f := Tapi_Fact.enc) (z := 2) (fun _ => rfl) h12), (fl_sub0 (f := Tapi_Fact.enc) (z := 3) (j := k5) (fun _ => rfl) h12 rfl), ⟨rfl, get_lt h14⟩, (fl_ne (f := Tapi_Fact.enc) (z := 2) (fun _ => rfl) h14), (fl_sub0 (f := Tapi_Fact.enc) (z := 3) (j := k5) (fun _ => rfl) h14 rfl), (not_f c15), ok1 h16⟩
theorem tollwayref52_Same_L2_1 (a_0 : (List Tapi_Fact)) (b_1 : (List Tapi_Fact)) (k5 : Nat) (c10 : (↑k5 : Int) < (↑a_0.length : Int)) (x11 : Tapi_Fact) (h12 : a_0[k5]? = some x11) (x13 : Tapi_Fact) (h14 : b_1[k5]? = some x13) (c15 : ¬ (((x11.Kind == x13.Kind) && ((x11.Key == x13.Key) && ((x11.Why == x13.Why) && true))) = true)) : Does Tryd.prog GT 0 (bodyAt Tryd.prog 11 [1, 1, 0, 1, 0, 0]) (tollwayref52_Same_L2_H a_0 b_1 k5) .ret (S 26 [(4, .bool false)] []) :=
  Does.of_viewM 0 400 (cs 3 ((.op none .a) :: (.br true) :: (cs 2 ((.op none (.i k5)) :: (.op none (.v [.str x11.Kind, .str x11.Key, .int .i64 x11.Why])) :: (cs 2 [.op none (.i k5), .op none (.v [.str x13.Kind, .str x13.Key, .int .i64 x13.Why]), .op none .c, .br true, .op none .c]))))) [] (ps := [((decide ((↑k5 : Int) < (↑a_0.length : Int))) = true), ((↑k5 : Int) = ((k5 : Nat) : Int) ∧ k5 < a_0.length), ((fl Tapi_Fact.enc a_0) ≠ []), (sub (fl Tapi_Fact.enc a_0) (k5 * 3) 3 = [.str x11.Kind, .str x11.Key, .int .i64 x11.Why]), ((↑k5 : Int) = ((k5 : Nat) : Int) ∧ k5 < b_1.length), ((fl Tapi_Fact.enc b_1) ≠ []), (sub (fl Tapi_Fact.enc b_1) (k5 * 3) 3 = [.str x13.Kind, .str x13.Key, .int .i64 x13.Why]), ((!((x11.Kind == x13.Kind) && ((x11.Key == x13.Key) && ((x11.Why == x13.Why) && true)))) = true)]) (by kernel_rfl) (by kernel_rfl) ⟨(decide_eq_true c10), ⟨rfl, get_lt h12⟩, (fl_ne (f := Tapi_Fact.enc) (z := 2) (fun _ => rfl) h12), (fl_sub0 (f := Tapi_Fact.enc) (z := 3) (j := k5) (fun _ => rfl) h12 rfl), ⟨rfl, get_lt h14⟩, (fl_ne (f := Tapi_Fact.enc) (z := 2) (fun _ => rfl) h14), (fl_sub0 (f := Tapi_Fact.enc) (z := 3) (j := k5) (fun _ => rfl) h14 rfl), ok1 (not_t (eq_false_of_ne_true c15))⟩
theorem tollwayref52_Same_L2_2 (a_0 : (List Tapi_Fact)) (b_1 : (List Tapi_Fact)) (k5 : Nat) (c10 : ¬ ((↑k5 : Int) < (↑a_0.length : Int))) : Does Tryd.prog GT 0 (bodyAt Tryd.prog 11 [1, 1, 0, 1, 0, 0]) (tollwayref52_Same_L2_H a_0 b_1 k5) (.exit 0) (S 26 [] []) :=
  Does.of_viewM 0 400 (cs 3 [.op none .a, .br false]) [] (ps := [((decide ((↑k5 : Int) < (↑a_0.length : Int))) = false)]) (by kernel_rfl) (by kernel_rfl) (ok1 (decide_eq_false c10))
def tollwayref52_Same_L2_X (a_0 : (List Tapi_Fact)) (b_1 : (List Tapi_Fact)) : (Unit ⊕ Unit) → AEx := fun q => match q with | Sum.inl o => .ret | Sum.inr (o) => (.exit 0)
def tollwayref52_Same_L2_E (a_0 : (List Tapi_Fact)) (b_1 : (List Tapi_Fact)) : (Unit ⊕ Unit) → St := fun q => match q with | Sum.inl o => S 26 [(4, .bool false)] [] | Sum.inr (o) => S 26 [] []
theorem tollwayref52_Same_L2_does (a_0 : (List Tapi_Fact)) (b_1 : (List Tapi_Fact)) {s : Nat} {r : Unit ⊕ Unit} (h : lp (tollwayref52_Same_L2_step a_0 b_1) s = some r) : Does Tryd.prog GT 0 (.loop (bodyAt Tryd.prog 11 [1, 1, 0, 1, 0, 0])) (tollwayref52_Same_L2_H a_0 b_1 s) (tollwayref52_Same_L2_X a_0 b_1 r) (tollwayref52_Same_L2_E a_0 b_1 r) := by
  refine Does.lp (H := tollwayref52_Same_L2_H a_0 b_1) (X := tollwayref52_Same_L2_X a_0 b_1) (E := tollwayref52_Same_L2_E a_0 b_1) (fun s s2 h => ?_) (fun s r h => ?_) h
  · revert h; revert s; intro k5 h
    unfold tollwayref52_Same_L2_step at h
    try dsimp only at h
    rcases ite_some h with ⟨c10, h⟩ | ⟨c10, h⟩
    · obtain ⟨x11, h12, h⟩ := bind_some h
      obtain ⟨x13, h14, h⟩ := bind_some h
      rcases ite_some h with ⟨c15, h⟩ | ⟨c15, h⟩
      · obtain ⟨h16, h⟩ := guard_some h
        simp only [Option.some.injEq, Sum.inl.injEq] at h
        subst h
        have hq := tollwayref52_Same_L2_0 a_0 b_1 k5 c10 x11 h12 x13 h14 c15 h16
        first | exact hq | exact Eq.mp (by simp only [tollwayref52_Same_L2_H, List.length_set] <;> rfl) hq
      · simp at h
    · simp at h
  · revert h; revert s; intro k5 h
    unfold tollwayref52_Same_L2_step at h
    try dsimp only at h
    rcases ite_some h with ⟨c10, h⟩ | ⟨c10, h⟩
    · obtain ⟨x11, h12, h⟩ := bind_some h
      obtain ⟨x13, h14, h⟩ := bind_some h
      rcases ite_some h with ⟨c15, h⟩ | ⟨c15, h⟩
      · obtain ⟨h16, h⟩ := guard_some h
        simp at h
      · simp only [Option.some.injEq, Sum.inr.injEq] at h
        subst h
        exact ⟨tollwayref52_Same_L2_1 a_0 b_1 k5 c10 x11 h12 x13 h14 c15, by intro q; cases q⟩
    · simp only [Option.some.injEq, Sum.inr.injEq] at h
      subst h
      exact ⟨tollwayref52_Same_L2_2 a_0 b_1 k5 c10, by intro q; cases q⟩
noncomputable def tollwayref52_Same (a_0 : (List Tapi_Fact)) (b_1 : (List Tapi_Fact)) : Option Bool :=
  if (↑a_0.length : Int) = (↑b_1.length : Int) then
    (lp (tollwayref52_Same_L2_step a_0 b_1) (0 : Nat)).bind fun qq => match qq with
    | Sum.inl o2 =>
      some false
    | Sum.inr (o2) =>
      some true
  else
    some false
def tollwayref52_Same_h1  : List CH := (cs 5 [.op none .a])
def tollwayref52_Same_p2 (a_0 : (List Tapi_Fact)) (b_1 : (List Tapi_Fact)) : List Prop := [((!((↑a_0.length : Int) == (↑b_1.length : Int))) = false), ((.lst (fl Tapi_Fact.enc a_0) a_0.length : AV) = .lst (fl Tapi_Fact.enc a_0) a_0.length), ((.lst (fl Tapi_Fact.enc b_1) b_1.length : AV) = .lst (fl Tapi_Fact.enc b_1) b_1.length), ((.int .i64 0 : AV) = .int .i64 (↑(0 : Nat) : Int))]
theorem tollwayref52_Same_p2q (a_0 : (List Tapi_Fact)) (b_1 : (List Tapi_Fact)) (c1 : (↑a_0.length : Int) = (↑b_1.length : Int)) : allOk (tollwayref52_Same_p2 a_0 b_1) := ⟨(not_f (beq_t c1)), rfl, rfl, ok1 rfl⟩
theorem tollwayref52_Same_0 (a_0 : (List Tapi_Fact)) (b_1 : (List Tapi_Fact)) (c1 : (↑a_0.length : Int) = (↑b_1.length : Int)) (o2 : Unit) (hl2 : lp (tollwayref52_Same_L2_step a_0 b_1) (0 : Nat) = some (Sum.inl o2)) : Ret Tryd.prog GT 11 [.lst (fl Tapi_Fact.enc a_0) a_0.length, .lst (fl Tapi_Fact.enc b_1) b_1.length] (.bool false) [] :=
  Ret.of_view 400 ((tollwayref52_Same_h1) ++ ([.br false, .op none .c] ++ [.fcut 0 .ret [(4, .bool false)] [] [] [(0, .lst (fl Tapi_Fact.enc a_0) a_0.length), (1, .lst (fl Tapi_Fact.enc b_1) b_1.length), (5, .int .i64 (↑(0 : Nat) : Int))] []])) [] (ps := ((tollwayref52_Same_p2 a_0 b_1) ++ [(Does Tryd.prog GT 0 (.loop (bodyAt Tryd.prog 11 [1, 1, 0, 1, 0, 0])) (S 26 [(0, .lst (fl Tapi_Fact.enc a_0) a_0.length), (1, .lst (fl Tapi_Fact.enc b_1) b_1.length), (5, .int .i64 (↑(0 : Nat) : Int))] []) .ret (S 26 [(4, .bool false)] []))])) (by kernel_rfl) (by kernel_rfl) (allOk_append.2 ⟨(tollwayref52_Same_p2q a_0 b_1 c1), (ok1 (tollwayref52_Same_L2_does a_0 b_1 hl2))⟩)
theorem tollwayref52_Same_1 (a_0 : (List Tapi_Fact)) (b_1 : (List Tapi_Fact)) (c1 : (↑a_0.length : Int) = (↑b_1.length : Int)) (o2 : Unit) (hl2 : lp (tollwayref52_Same_L2_step a_0 b_1) (0 : Nat) = some (Sum.inr (o2))) : Ret Tryd.prog GT 11 [.lst (fl Tapi_Fact.enc a_0) a_0.length, .lst (fl Tapi_Fact.enc b_1) b_1.length] (.bool true) [] :=
  Ret.of_view 400 ((tollwayref52_Same_h1) ++ ([.br false, .op none .c] ++ [.fcut 0 (.exit 0) [] [] [] [(0, .lst (fl Tapi_Fact.enc a_0) a_0.length), (1, .lst (fl Tapi_Fact.enc b_1) b_1.length), (5, .int .i64 (↑(0 : Nat) : Int))] [], .op none .c])) [] (ps := ((tollwayref52_Same_p2 a_0 b_1) ++ [(Does Tryd.prog GT 0 (.loop (bodyAt Tryd.prog 11 [1, 1, 0, 1, 0, 0])) (S 26 [(0, .lst (fl Tapi_Fact.enc a_0) a_0.length), (1, .lst (fl Tapi_Fact.enc b_1) b_1.length), (5, .int .i64 (↑(0 : Nat) : Int))] []) (.exit 0) (S 26 [] []))])) (by kernel_rfl) (by kernel_rfl) (allOk_append.2 ⟨(tollwayref52_Same_p2q a_0 b_1 c1), (ok1 (tollwayref52_Same_L2_does a_0 b_1 hl2))⟩)
theorem tollwayref52_Same_2 (a_0 : (List Tapi_Fact)) (b_1 : (List Tapi_Fact)) (c1 : ¬ ((↑a_0.length : Int) = (↑b_1.length : Int))) : Ret Tryd.prog GT 11 [.lst (fl Tapi_Fact.enc a_0) a_0.length, .lst (fl Tapi_Fact.enc b_1) b_1.length] (.bool false) [] :=
  Ret.of_view 400 ((tollwayref52_Same_h1) ++ [.br true, .op none .c]) [] (ps := [((!((↑a_0.length : Int) == (↑b_1.length : Int))) = true)]) (by kernel_rfl) (by kernel_rfl) (ok1 (not_t (beq_f c1)))
theorem tollwayref52_Same_ret (a_0 : (List Tapi_Fact)) (b_1 : (List Tapi_Fact)) (r : Bool) (h : tollwayref52_Same a_0 b_1 = some r) : Ret Tryd.prog GT 11 [.lst (fl Tapi_Fact.enc a_0) a_0.length, .lst (fl Tapi_Fact.enc b_1) b_1.length] (.bool r) [] := by
  unfold tollwayref52_Same at h
  rcases ite_some h with ⟨c1, h⟩ | ⟨c1, h⟩
  · obtain ⟨qq, hl2, h⟩ := bind_some h
    rcases qq with o2 | o2
    · dsimp only at h
      simp only [Option.some.injEq] at h
      subst h
      exact tollwayref52_Same_0 a_0 b_1 c1 o2 hl2
    · dsimp only at h
      simp only [Option.some.injEq] at h
      subst h
      exact tollwayref52_Same_1 a_0 b_1 c1 o2 hl2
  · simp only [Option.some.injEq] at h
    subst h
    exact tollwayref52_Same_2 a_0 b_1 c1
noncomputable def tollwayref52_charge_L1_step (l_0 : (List Tapi_Charge)) (key_1 : (List UInt8)) : Nat → Option (Nat ⊕ (Int ⊕ Unit)) := fun k5 =>
  if (↑k5 : Int) < (↑l_0.length : Int) then
    (l_0[k5]?).bind fun x8 =>
    if x8.Key = key_1 then
      some (Sum.inr (Sum.inl (↑k5 : Int)))
    else
      if InR .i64 ((↑k5 : Int) + 1) then
        some (Sum.inl (k5 + 1))
      else none
  else
    some (Sum.inr (Sum.inr (())))
def tollwayref52_charge_L1_H (l_0 : (List Tapi_Charge)) (key_1 : (List UInt8)) : Nat → St := fun (s : Nat) => S 20 [(0, .lst (fl Tapi_Charge.enc l_0) l_0.length), (1, .str key_1), (5, .int .i64 (↑s : Int))] []
theorem tollwayref52_charge_L1_0 (l_0 : (List Tapi_Charge)) (key_1 : (List UInt8)) (k5 : Nat) (c7 : (↑k5 : Int) < (↑l_0.length : Int)) (x8 : Tapi_Charge) (h9 : l_0[k5]? = some x8) (c10 : x8.Key = key_1) : Does Tryd.prog GT 0 (bodyAt Tryd.prog 40 [1, 0, 1, 0, 0]) (tollwayref52_charge_L1_H l_0 key_1 k5) .ret (S 20 [(4, .int .i64 (↑k5 : Int))] []) :=
  Does.of_viewM 0 400 (cs 3 ((.op none .a) :: (.br true) :: (cs 2 ((.op none (.i k5)) :: (.op none .c) :: (.op none (.v [.str x8.Key])) :: (.op none .c) :: (.op none .a) :: (.br true) :: (cs 2 []))))) [] (ps := [((decide ((↑k5 : Int) < (↑l_0.length : Int))) = true), ((↑k5 : Int) = ((k5 : Nat) : Int) ∧ k5 < l_0.length), ((fl Tapi_Charge.enc l_0) ≠ []), (sub (fl Tapi_Charge.enc l_0) (k5 * 7) 1 = [.str x8.Key]), ((x8.Key == key_1) = true)]) (by kernel_rfl) (by kernel_rfl) ⟨(decide_eq_true c7), ⟨rfl, get_lt h9⟩, (fl_ne (f := Tapi_Charge.enc) (z := 6) (fun _ => rfl) h9), (fl_sub (f := Tapi_Charge.enc) (z := 7) (j := k5) (a := 0) (n := 1) (fun _ => rfl) h9 (by decide) rfl), ok1 (beq_t c10)⟩
theorem tollwayref52_charge_L1_1 (l_0 : (List Tapi_Charge)) (key_1 : (List UInt8)) (k5 : Nat) (c7 : (↑k5 : Int) < (↑l_0.length : Int)) (x8 : Tapi_Charge) (h9 : l_0[k5]? = some x8) (c10 : ¬ (x8.Key = key_1)) (h11 : InR .i64 ((↑k5 : Int) + 1)) : Does Tryd.prog GT 0 (bodyAt Tryd.prog 40 [1, 0, 1, 0, 0]) (tollwayref52_charge_L1_H l_0 key_1 k5) .normal (S 20 [(0, .lst (fl Tapi_Charge.enc l_0) l_0.length), (1, .str key_1), (5, .int .i64 ((↑k5 : Int) + 1))] []) :=
  Does.of_viewM 0 400 (cs 3 ((.op none .a) :: (.br true) :: (cs 2 [.op none (.i k5), .op none .c, .op none (.v [.str x8.Key]), .op none .c, .op none .a, .br false, .op none .c, .op none .w, .op none .c]))) [] (ps := [((decide ((↑k5 : Int) < (↑l_0.length : Int))) = true), ((↑k5 : Int) = ((k5 : Nat) : Int) ∧ k5 < l_0.length), ((fl Tapi_Charge.enc l_0) ≠ []), (sub (fl Tapi_Charge.enc l_0) (k5 * 7) 1 = [.str x8.Key]), ((x8.Key == key_1) = false), (IntKind.min .i64 ≤ ((↑k5 : Int) + 1) ∧ ((↑k5 : Int) + 1) ≤ IntKind.max .i64)]) (by kernel_rfl) (by kernel_rfl) ⟨(decide_eq_true c7), ⟨rfl, get_lt h9⟩, (fl_ne (f := Tapi_Charge.enc) (z := 6) (fun _ => rfl) h9), (fl_sub (f := Tapi_Charge.enc) (z := 7) (j := k5) (a := 0) (n := 1) (fun _ => rfl) h9 (by decide) rfl), (beq_f c10), ok1 h11⟩
theorem tollwayref52_charge_L1_2 (l_0 : (List Tapi_Charge)) (key_1 : (List UInt8)) (k5 : Nat) (c7 : ¬ ((↑k5 : Int) < (↑l_0.length : Int))) : Does Tryd.prog GT 0 (bodyAt Tryd.prog 40 [1, 0, 1, 0, 0]) (tollwayref52_charge_L1_H l_0 key_1 k5) (.exit 0) (S 20 [] []) :=
  Does.of_viewM 0 400 (cs 3 [.op none .a, .br false]) [] (ps := [((decide ((↑k5 : Int) < (↑l_0.length : Int))) = false)]) (by kernel_rfl) (by kernel_rfl) (ok1 (decide_eq_false c7))
def tollwayref52_charge_L1_X (l_0 : (List Tapi_Charge)) (key_1 : (List UInt8)) : (Int ⊕ Unit) → AEx := fun q => match q with | Sum.inl o => .ret | Sum.inr (o) => (.exit 0)
def tollwayref52_charge_L1_E (l_0 : (List Tapi_Charge)) (key_1 : (List UInt8)) : (Int ⊕ Unit) → St := fun q => match q with | Sum.inl o => S 20 [(4, .int .i64 o)] [] | Sum.inr (o) => S 20 [] []
theorem tollwayref52_charge_L1_does (l_0 : (List Tapi_Charge)) (key_1 : (List UInt8)) {s : Nat} {r : Int ⊕ Unit} (h : lp (tollwayref52_charge_L1_step l_0 key_1) s = some r) : Does Tryd.prog GT 0 (.loop (bodyAt Tryd.prog 40 [1, 0, 1, 0, 0])) (tollwayref52_charge_L1_H l_0 key_1 s) (tollwayref52_charge_L1_X l_0 key_1 r) (tollwayref52_charge_L1_E l_0 key_1 r) := by
  refine Does.lp (H := tollwayref52_charge_L1_H l_0 key_1) (X := tollwayref52_charge_L1_X l_0 key_1) (E := tollwayref52_charge_L1_E l_0 key_1) (fun s s2 h => ?_) (fun s r h => ?_) h
  · revert h; revert s; intro k5 h
    unfold tollwayref52_charge_L1_step at h
    try dsimp only at h
    rcases ite_some h with ⟨c7, h⟩ | ⟨c7, h⟩
    · obtain ⟨x8, h9, h⟩ := bind_some h
      rcases ite_some h with ⟨c10, h⟩ | ⟨c10, h⟩
      · simp at h
      · obtain ⟨h11, h⟩ := guard_some h
        simp only [Option.some.injEq, Sum.inl.injEq] at h
        subst h
        have hq := tollwayref52_charge_L1_1 l_0 key_1 k5 c7 x8 h9 c10 h11
        first | exact hq | exact Eq.mp (by simp only [tollwayref52_charge_L1_H, List.length_set] <;> rfl) hq
    · simp at h
  · revert h; revert s; intro k5 h
    unfold tollwayref52_charge_L1_step at h
    try dsimp only at h
    rcases ite_some h with ⟨c7, h⟩ | ⟨c7, h⟩
    · obtain ⟨x8, h9, h⟩ := bind_some h
      rcases ite_some h with ⟨c10, h⟩ | ⟨c10, h⟩
      · simp only [Option.some.injEq, Sum.inr.injEq] at h
        subst h
        exact ⟨tollwayref52_charge_L1_0 l_0 key_1 k5 c7 x8 h9 c10, by intro q; cases q⟩
      · obtain ⟨h11, h⟩ := guard_some h
        simp at h
    · simp only [Option.some.injEq, Sum.inr.injEq] at h
      subst h
      exact ⟨tollwayref52_charge_L1_2 l_0 key_1 k5 c7, by intro q; cases q⟩
noncomputable def tollwayref52_charge (l_0 : (List Tapi_Charge)) (key_1 : (List UInt8)) : Option Int :=
  (lp (tollwayref52_charge_L1_step l_0 key_1) (0 : Nat)).bind fun qq => match qq with
  | Sum.inl o1 =>
    some o1
  | Sum.inr (o1) =>
    some (-1)
def tollwayref52_charge_p1 (l_0 : (List Tapi_Charge)) (key_1 : (List UInt8)) : List Prop := [((.lst (fl Tapi_Charge.enc l_0) l_0.length : AV) = .lst (fl Tapi_Charge.enc l_0) l_0.length), ((.str key_1 : AV) = .str key_1), ((.int .i64 0 : AV) = .int .i64 (↑(0 : Nat) : Int))]
theorem tollwayref52_charge_p1q (l_0 : (List Tapi_Charge)) (key_1 : (List UInt8)) : allOk (tollwayref52_charge_p1 l_0 key_1) := ⟨rfl, rfl, ok1 rfl⟩
theorem tollwayref52_charge_0 (l_0 : (List Tapi_Charge)) (key_1 : (List UInt8)) (o1 : Int) (hl1 : lp (tollwayref52_charge_L1_step l_0 key_1) (0 : Nat) = some (Sum.inl o1)) : Ret Tryd.prog GT 40 [.lst (fl Tapi_Charge.enc l_0) l_0.length, .str key_1] (.int .i64 o1) [] :=
  Ret.of_view 400 ((cs 2 []) ++ [.fcut 0 .ret [(4, .int .i64 o1)] [] [] [(0, .lst (fl Tapi_Charge.enc l_0) l_0.length), (1, .str key_1), (5, .int .i64 (↑(0 : Nat) : Int))] []]) [] (ps := ((tollwayref52_charge_p1 l_0 key_1) ++ [(Does Tryd.prog GT 0 (.loop (bodyAt Tryd.prog 40 [1, 0, 1, 0, 0])) (S 20 [(0, .lst (fl Tapi_Charge.enc l_0) l_0.length), (1, .str key_1), (5, .int .i64 (↑(0 : Nat) : Int))] []) .ret (S 20 [(4, .int .i64 o1)] []))])) (by kernel_rfl) (by kernel_rfl) (allOk_append.2 ⟨(tollwayref52_charge_p1q l_0 key_1), (ok1 (tollwayref52_charge_L1_does l_0 key_1 hl1))⟩)
theorem tollwayref52_charge_1 (l_0 : (List Tapi_Charge)) (key_1 : (List UInt8)) (o1 : Unit) (hl1 : lp (tollwayref52_charge_L1_step l_0 key_1) (0 : Nat) = some (Sum.inr (o1))) : Ret Tryd.prog GT 40 [.lst (fl Tapi_Charge.enc l_0) l_0.length, .str key_1] (.int .i64 (-1)) [] :=
  Ret.of_view 400 ((cs 2 []) ++ [.fcut 0 (.exit 0) [] [] [] [(0, .lst (fl Tapi_Charge.enc l_0) l_0.length), (1, .str key_1), (5, .int .i64 (↑(0 : Nat) : Int))] [], .op none .c]) [] (ps := ((tollwayref52_charge_p1 l_0 key_1) ++ [(Does Tryd.prog GT 0 (.loop (bodyAt Tryd.prog 40 [1, 0, 1, 0, 0])) (S 20 [(0, .lst (fl Tapi_Charge.enc l_0) l_0.length), (1, .str key_1), (5, .int .i64 (↑(0 : Nat) : Int))] []) (.exit 0) (S 20 [] []))])) (by kernel_rfl) (by kernel_rfl) (allOk_append.2 ⟨(tollwayref52_charge_p1q l_0 key_1), (ok1 (tollwayref52_charge_L1_does l_0 key_1 hl1))⟩)
theorem tollwayref52_charge_ret (l_0 : (List Tapi_Charge)) (key_1 : (List UInt8)) (r : Int) (h : tollwayref52_charge l_0 key_1 = some r) : Ret Tryd.prog GT 40 [.lst (fl Tapi_Charge.enc l_0) l_0.length, .str key_1] (.int .i64 r) [] := by
  unfold tollwayref52_charge at h
  obtain ⟨qq, hl1, h⟩ := bind_some h
  rcases qq with o1 | o1
  · dsimp only at h
    simp only [Option.some.injEq] at h
    subst h
    exact tollwayref52_charge_0 l_0 key_1 o1 hl1
  · dsimp only at h
    simp only [Option.some.injEq] at h
    subst h
    exact tollwayref52_charge_1 l_0 key_1 o1 hl1
noncomputable def tollwayref52_passage_L1_step (l_0 : (List Tapi_Passage)) (id_1 : (List UInt8)) : Nat → Option (Nat ⊕ (Int ⊕ Unit)) := fun k5 =>
  if (↑k5 : Int) < (↑l_0.length : Int) then
    (l_0[k5]?).bind fun x8 =>
    if x8.ID = id_1 then
      some (Sum.inr (Sum.inl (↑k5 : Int)))
    else
      if InR .i64 ((↑k5 : Int) + 1) then
        some (Sum.inl (k5 + 1))
      else none
  else
    some (Sum.inr (Sum.inr (())))
def tollwayref52_passage_L1_H (l_0 : (List Tapi_Passage)) (id_1 : (List UInt8)) : Nat → St := fun (s : Nat) => S 20 [(0, .lst (fl Tapi_Passage.enc l_0) l_0.length), (1, .str id_1), (5, .int .i64 (↑s : Int))] []
theorem tollwayref52_passage_L1_0 (l_0 : (List Tapi_Passage)) (id_1 : (List UInt8)) (k5 : Nat) (c7 : (↑k5 : Int) < (↑l_0.length : Int)) (x8 : Tapi_Passage) (h9 : l_0[k5]? = some x8) (c10 : x8.ID = id_1) : Does Tryd.prog GT 0 (bodyAt Tryd.prog 48 [1, 0, 1, 0, 0]) (tollwayref52_passage_L1_H l_0 id_1 k5) .ret (S 20 [(4, .int .i64 (↑k5 : Int))] []) :=
  Does.of_viewM 0 400 (cs 3 ((.op none .a) :: (.br true) :: (cs 2 ((.op none (.i k5)) :: (.op none .c) :: (.op none (.v [.str x8.ID])) :: (.op none .c) :: (.op none .a) :: (.br true) :: (cs 2 []))))) [] (ps := [((decide ((↑k5 : Int) < (↑l_0.length : Int))) = true), ((↑k5 : Int) = ((k5 : Nat) : Int) ∧ k5 < l_0.length), ((fl Tapi_Passage.enc l_0) ≠ []), (sub (fl Tapi_Passage.enc l_0) (k5 * 8) 1 = [.str x8.ID]), ((x8.ID == id_1) = true)]) (by kernel_rfl) (by kernel_rfl) ⟨(decide_eq_true c7), ⟨rfl, get_lt h9⟩, (fl_ne (f := Tapi_Passage.enc) (z := 7) (fun _ => rfl) h9), (fl_sub (f := Tapi_Passage.enc) (z := 8) (j := k5) (a := 0) (n := 1) (fun _ => rfl) h9 (by decide) rfl), ok1 (beq_t c10)⟩
theorem tollwayref52_passage_L1_1 (l_0 : (List Tapi_Passage)) (id_1 : (List UInt8)) (k5 : Nat) (c7 : (↑k5 : Int) < (↑l_0.length : Int)) (x8 : Tapi_Passage) (h9 : l_0[k5]? = some x8) (c10 : ¬ (x8.ID = id_1)) (h11 : InR .i64 ((↑k5 : Int) + 1)) : Does Tryd.prog GT 0 (bodyAt Tryd.prog 48 [1, 0, 1, 0, 0]) (tollwayref52_passage_L1_H l_0 id_1 k5) .normal (S 20 [(0, .lst (fl Tapi_Passage.enc l_0) l_0.length), (1, .str id_1), (5, .int .i64 ((↑k5 : Int) + 1))] []) :=
  Does.of_viewM 0 400 (cs 3 ((.op none .a) :: (.br true) :: (cs 2 [.op none (.i k5), .op none .c, .op none (.v [.str x8.ID]), .op none .c, .op none .a, .br false, .op none .c, .op none .w, .op none .c]))) [] (ps := [((decide ((↑k5 : Int) < (↑l_0.length : Int))) = true), ((↑k5 : Int) = ((k5 : Nat) : Int) ∧ k5 < l_0.length), ((fl Tapi_Passage.enc l_0) ≠ []), (sub (fl Tapi_Passage.enc l_0) (k5 * 8) 1 = [.str x8.ID]), ((x8.ID == id_1) = false), (IntKind.min .i64 ≤ ((↑k5 : Int) + 1) ∧ ((↑k5 : Int) + 1) ≤ IntKind.max .i64)]) (by kernel_rfl) (by kernel_rfl) ⟨(decide_eq_true c7), ⟨rfl, get_lt h9⟩, (fl_ne (f := Tapi_Passage.enc) (z := 7) (fun _ => rfl) h9), (fl_sub (f := Tapi_Passage.enc) (z := 8) (j := k5) (a := 0) (n := 1) (fun _ => rfl) h9 (by decide) rfl), (beq_f c10), ok1 h11⟩
theorem tollwayref52_passage_L1_2 (l_0 : (List Tapi_Passage)) (id_1 : (List UInt8)) (k5 : Nat) (c7 : ¬ ((↑k5 : Int) < (↑l_0.length : Int))) : Does Tryd.prog GT 0 (bodyAt Tryd.prog 48 [1, 0, 1, 0, 0]) (tollwayref52_passage_L1_H l_0 id_1 k5) (.exit 0) (S 20 [] []) :=
  Does.of_viewM 0 400 (cs 3 [.op none .a, .br false]) [] (ps := [((decide ((↑k5 : Int) < (↑l_0.length : Int))) = false)]) (by kernel_rfl) (by kernel_rfl) (ok1 (decide_eq_false c7))
def tollwayref52_passage_L1_X (l_0 : (List Tapi_Passage)) (id_1 : (List UInt8)) : (Int ⊕ Unit) → AEx := fun q => match q with | Sum.inl o => .ret | Sum.inr (o) => (.exit 0)
def tollwayref52_passage_L1_E (l_0 : (List Tapi_Passage)) (id_1 : (List UInt8)) : (Int ⊕ Unit) → St := fun q => match q with | Sum.inl o => S 20 [(4, .int .i64 o)] [] | Sum.inr (o) => S 20 [] []
theorem tollwayref52_passage_L1_does (l_0 : (List Tapi_Passage)) (id_1 : (List UInt8)) {s : Nat} {r : Int ⊕ Unit} (h : lp (tollwayref52_passage_L1_step l_0 id_1) s = some r) : Does Tryd.prog GT 0 (.loop (bodyAt Tryd.prog 48 [1, 0, 1, 0, 0])) (tollwayref52_passage_L1_H l_0 id_1 s) (tollwayref52_passage_L1_X l_0 id_1 r) (tollwayref52_passage_L1_E l_0 id_1 r) := by
  refine Does.lp (H := tollwayref52_passage_L1_H l_0 id_1) (X := tollwayref52_passage_L1_X l_0 id_1) (E := tollwayref52_passage_L1_E l_0 id_1) (fun s s2 h => ?_) (fun s r h => ?_) h
  · revert h; revert s; intro k5 h
    unfold tollwayref52_passage_L1_step at h
    try dsimp only at h
    rcases ite_some h with ⟨c7, h⟩ | ⟨c7, h⟩
    · obtain ⟨x8, h9, h⟩ := bind_some h
      rcases ite_some h with ⟨c10, h⟩ | ⟨c10, h⟩
      · simp at h
      · obtain ⟨h11, h⟩ := guard_some h
        simp only [Option.some.injEq, Sum.inl.injEq] at h
        subst h
        have hq := tollwayref52_passage_L1_1 l_0 id_1 k5 c7 x8 h9 c10 h11
        first | exact hq | exact Eq.mp (by simp only [tollwayref52_passage_L1_H, List.length_set] <;> rfl) hq
    · simp at h
  · revert h; revert s; intro k5 h
    unfold tollwayref52_passage_L1_step at h
    try dsimp only at h
    rcases ite_some h with ⟨c7, h⟩ | ⟨c7, h⟩
    · obtain ⟨x8, h9, h⟩ := bind_some h
      rcases ite_some h with ⟨c10, h⟩ | ⟨c10, h⟩
      · simp only [Option.some.injEq, Sum.inr.injEq] at h
        subst h
        exact ⟨tollwayref52_passage_L1_0 l_0 id_1 k5 c7 x8 h9 c10, by intro q; cases q⟩
      · obtain ⟨h11, h⟩ := guard_some h
        simp at h
    · simp only [Option.some.injEq, Sum.inr.injEq] at h
      subst h
      exact ⟨tollwayref52_passage_L1_2 l_0 id_1 k5 c7, by intro q; cases q⟩
noncomputable def tollwayref52_passage (l_0 : (List Tapi_Passage)) (id_1 : (List UInt8)) : Option Int :=
  (lp (tollwayref52_passage_L1_step l_0 id_1) (0 : Nat)).bind fun qq => match qq with
  | Sum.inl o1 =>
    some o1
  | Sum.inr (o1) =>
    some (-1)
def tollwayref52_passage_p1 (l_0 : (List Tapi_Passage)) (id_1 : (List UInt8)) : List Prop := [((.lst (fl Tapi_Passage.enc l_0) l_0.length : AV) = .lst (fl Tapi_Passage.enc l_0) l_0.length), ((.str id_1 : AV) = .str id_1), ((.int .i64 0 : AV) = .int .i64 (↑(0 : Nat) : Int))]
theorem tollwayref52_passage_p1q (l_0 : (List Tapi_Passage)) (id_1 : (List UInt8)) : allOk (tollwayref52_passage_p1 l_0 id_1) := ⟨rfl, rfl, ok1 rfl⟩
theorem tollwayref52_passage_0 (l_0 : (List Tapi_Passage)) (id_1 : (List UInt8)) (o1 : Int) (hl1 : lp (tollwayref52_passage_L1_step l_0 id_1) (0 : Nat) = some (Sum.inl o1)) : Ret Tryd.prog GT 48 [.lst (fl Tapi_Passage.enc l_0) l_0.length, .str id_1] (.int .i64 o1) [] :=
  Ret.of_view 400 ((cs 2 []) ++ [.fcut 0 .ret [(4, .int .i64 o1)] [] [] [(0, .lst (fl Tapi_Passage.enc l_0) l_0.length), (1, .str id_1), (5, .int .i64 (↑(0 : Nat) : Int))] []]) [] (ps := ((tollwayref52_passage_p1 l_0 id_1) ++ [(Does Tryd.prog GT 0 (.loop (bodyAt Tryd.prog 48 [1, 0, 1, 0, 0])) (S 20 [(0, .lst (fl Tapi_Passage.enc l_0) l_0.length), (1, .str id_1), (5, .int .i64 (↑(0 : Nat) : Int))] []) .ret (S 20 [(4, .int .i64 o1)] []))])) (by kernel_rfl) (by kernel_rfl) (allOk_append.2 ⟨(tollwayref52_passage_p1q l_0 id_1), (ok1 (tollwayref52_passage_L1_does l_0 id_1 hl1))⟩)
theorem tollwayref52_passage_1 (l_0 : (List Tapi_Passage)) (id_1 : (List UInt8)) (o1 : Unit) (hl1 : lp (tollwayref52_passage_L1_step l_0 id_1) (0 : Nat) = some (Sum.inr (o1))) : Ret Tryd.prog GT 48 [.lst (fl Tapi_Passage.enc l_0) l_0.length, .str id_1] (.int .i64 (-1)) [] :=
  Ret.of_view 400 ((cs 2 []) ++ [.fcut 0 (.exit 0) [] [] [] [(0, .lst (fl Tapi_Passage.enc l_0) l_0.length), (1, .str id_1), (5, .int .i64 (↑(0 : Nat) : Int))] [], .op none .c]) [] (ps := ((tollwayref52_passage_p1 l_0 id_1) ++ [(Does Tryd.prog GT 0 (.loop (bodyAt Tryd.prog 48 [1, 0, 1, 0, 0])) (S 20 [(0, .lst (fl Tapi_Passage.enc l_0) l_0.length), (1, .str id_1), (5, .int .i64 (↑(0 : Nat) : Int))] []) (.exit 0) (S 20 [] []))])) (by kernel_rfl) (by kernel_rfl) (allOk_append.2 ⟨(tollwayref52_passage_p1q l_0 id_1), (ok1 (tollwayref52_passage_L1_does l_0 id_1 hl1))⟩)
theorem tollwayref52_passage_ret (l_0 : (List Tapi_Passage)) (id_1 : (List UInt8)) (r : Int) (h : tollwayref52_passage l_0 id_1 = some r) : Ret Tryd.prog GT 48 [.lst (fl Tapi_Passage.enc l_0) l_0.length, .str id_1] (.int .i64 r) [] := by
  unfold tollwayref52_passage at h
  obtain ⟨qq, hl1, h⟩ := bind_some h
  rcases qq with o1 | o1
  · dsimp only at h
    simp only [Option.some.injEq] at h
    subst h
    exact tollwayref52_passage_0 l_0 id_1 o1 hl1
  · dsimp only at h
    simp only [Option.some.injEq] at h
    subst h
    exact tollwayref52_passage_1 l_0 id_1 o1 hl1
end Go.Proofs.YtalobodhbbkgdabDoor.Av
