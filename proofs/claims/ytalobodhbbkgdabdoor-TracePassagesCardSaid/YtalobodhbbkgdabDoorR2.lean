import Derived.Test.YtalobodhbbkgdabDoorAvX
import Derived.Test.YtalobodhbbkgdabDoorProg
import Derived.Tactics
import Derived.Test.YtalobodhbbkgdabDoorR1
set_option linter.unusedVariables false
set_option linter.unusedSimpArgs false
set_option maxHeartbeats 4000000
namespace Go.Proofs.YtalobodhbbkgdabDoor.Av
open Go Go.Proofs
noncomputable def tollwayref01_Format_L2_step (n_0 : Int) : ((List UInt8) × Int) → Option (((List UInt8) × Int) ⊕ (List UInt8))
  | (v3, v4) =>
    if v4 = (0 : Int) then
      some (Sum.inr v3)
    else
      if (Int.tmod v4 10) < (0 : Int) then
        if InR .i64 (0 - (Int.tmod v4 10)) then
          if InR .i64 ((0 - (Int.tmod v4 10)) + 1) then
            if (0 : Int) ≤ (0 - (Int.tmod v4 10)) then
              if (0 : Int) ≤ ((0 - (Int.tmod v4 10)) + 1) then
                if (Int.toNat (0 - (Int.tmod v4 10))) ≤ (Int.toNat ((0 - (Int.tmod v4 10)) + 1)) then
                  if (Int.toNat ((0 - (Int.tmod v4 10)) + 1)) ≤ 10 then
                    (some ((List.drop (Int.toNat (0 - (Int.tmod v4 10))) (List.take (Int.toNat ((0 - (Int.tmod v4 10)) + 1)) ([48, 49, 50, 51, 52, 53, 54, 55, 56, 57] : List UInt8))))).bind fun s32 =>
                    if s32.length + v3.length ≤ 9223372036854775807 then
                      if InR .i64 (Int.tdiv v4 10) then
                        some (Sum.inl (s32 ++ v3, (Int.tdiv v4 10)))
                      else none
                    else none
                  else none
                else none
              else none
            else none
          else none
        else none
      else
        if InR .i64 ((Int.tmod v4 10) + 1) then
          if (0 : Int) ≤ (Int.tmod v4 10) then
            if (0 : Int) ≤ ((Int.tmod v4 10) + 1) then
              if (Int.toNat (Int.tmod v4 10)) ≤ (Int.toNat ((Int.tmod v4 10) + 1)) then
                if (Int.toNat ((Int.tmod v4 10) + 1)) ≤ 10 then
                  (some ((List.drop (Int.toNat (Int.tmod v4 10)) (List.take (Int.toNat ((Int.tmod v4 10) + 1)) ([48, 49, 50, 51, 52, 53, 54, 55, 56, 57] : List UInt8))))).bind fun s41 =>
                  if s41.length + v3.length ≤ 9223372036854775807 then
                    if InR .i64 (Int.tdiv v4 10) then
                      some (Sum.inl (s41 ++ v3, (Int.tdiv v4 10)))
                    else none
                  else none
                else none
              else none
            else none
          else none
        else none
def tollwayref01_Format_L2_H (n_0 : Int) : ((List UInt8) × Int) → St := fun (s : ((List UInt8) × Int)) => S 30 [(0, .int .i64 n_0), (3, .str s.1), (4, .int .i64 s.2)] []
theorem tollwayref01_Format_L2_0 (n_0 : Int) (v3 : (List UInt8)) (v4 : Int) (c24 : v4 = (0 : Int)) : Does Tryd.prog GT 0 (bodyAt Tryd.prog 56 [1, 1, 1, 0, 1, 0, 0]) (tollwayref01_Format_L2_H n_0 (v3, v4)) (.exit 0) (S 30 [(0, .int .i64 n_0), (3, .str v3)] []) :=
  Does.of_viewM 0 400 [.op none .c, .op none .a, .br false] [] (ps := [((!(v4 == (0 : Int))) = false)]) (by kernel_rfl) (by kernel_rfl) (ok1 (not_f (beq_t c24)))
theorem tollwayref01_Format_L2_1 (n_0 : Int) (v3 : (List UInt8)) (v4 : Int) (c24 : ¬ (v4 = (0 : Int))) (c25 : (Int.tmod v4 10) < (0 : Int)) (h26 : InR .i64 (0 - (Int.tmod v4 10))) (h27 : InR .i64 ((0 - (Int.tmod v4 10)) + 1)) (h28 : (0 : Int) ≤ (0 - (Int.tmod v4 10))) (h29 : (0 : Int) ≤ ((0 - (Int.tmod v4 10)) + 1)) (h30 : (Int.toNat (0 - (Int.tmod v4 10))) ≤ (Int.toNat ((0 - (Int.tmod v4 10)) + 1))) (h31 : (Int.toNat ((0 - (Int.tmod v4 10)) + 1)) ≤ 10) (s32 : (List UInt8)) (h33 : some ((List.drop (Int.toNat (0 - (Int.tmod v4 10))) (List.take (Int.toNat ((0 - (Int.tmod v4 10)) + 1)) ([48, 49, 50, 51, 52, 53, 54, 55, 56, 57] : List UInt8)))) = some s32) (h34 : s32.length + v3.length ≤ 9223372036854775807) (h35 : InR .i64 (Int.tdiv v4 10)) : Does Tryd.prog GT 0 (bodyAt Tryd.prog 56 [1, 1, 1, 0, 1, 0, 0]) (tollwayref01_Format_L2_H n_0 (v3, v4)) .normal (S 30 [(0, .int .i64 n_0), (3, .str (s32 ++ v3)), (4, .int .i64 (Int.tdiv v4 10))] []) :=
  Does.of_viewM 0 400 ((.op none .c) :: (.op none .a) :: (.br true) :: (.op none .c) :: (.op none .a) :: (cs 2 ((.op none .a) :: (.br true) :: (.op none .c) :: (.op none .w) :: (cs 3 ((.op none .w) :: (.op none (.s (Int.toNat (0 - (Int.tmod v4 10))) (Int.toNat ((0 - (Int.tmod v4 10)) + 1)))) :: (.tr (.eqt (.t 22) (.str s32))) :: (.op none .c) :: (.op none .a) :: (cs 2 [.op none .w, .op none .c])))))) [] (ps := [((!(v4 == (0 : Int))) = true), (10 ≠ (0 : Int)), ((decide ((Int.tmod v4 10) < (0 : Int))) = true), (IntKind.min .i64 ≤ (0 - (Int.tmod v4 10)) ∧ (0 - (Int.tmod v4 10)) ≤ IntKind.max .i64), (IntKind.min .i64 ≤ ((0 - (Int.tmod v4 10)) + 1) ∧ ((0 - (Int.tmod v4 10)) + 1) ≤ IntKind.max .i64), (((0 - (Int.tmod v4 10)) + 1) = (((Int.toNat ((0 - (Int.tmod v4 10)) + 1)) : Nat) : Int)), ((0 - (Int.tmod v4 10)) = (((Int.toNat (0 - (Int.tmod v4 10))) : Nat) : Int)), ((Int.toNat (0 - (Int.tmod v4 10))) ≤ (Int.toNat ((0 - (Int.tmod v4 10)) + 1)) ∧ (Int.toNat ((0 - (Int.tmod v4 10)) + 1)) ≤ 10), ((.str (List.drop (Int.toNat (0 - (Int.tmod v4 10))) (List.take (Int.toNat ((0 - (Int.tmod v4 10)) + 1)) ([48, 49, 50, 51, 52, 53, 54, 55, 56, 57] : List UInt8))) : AV) = .str s32), (s32.length + v3.length ≤ 9223372036854775807), (10 ≠ (0 : Int)), (IntKind.min .i64 ≤ (Int.tdiv v4 10) ∧ (Int.tdiv v4 10) ≤ IntKind.max .i64)]) (by kernel_rfl) (by kernel_rfl) ⟨(not_t (beq_f c24)), (by decide), (decide_eq_true c25), h26, h27, (Int.toNat_of_nonneg h29).symm, (Int.toNat_of_nonneg h28).symm, ⟨h30, h31⟩, (congrArg _ (Option.some.inj h33)), h34, (by decide), ok1 h35⟩
theorem tollwayref01_Format_L2_2 (n_0 : Int) (v3 : (List UInt8)) (v4 : Int) (c24 : ¬ (v4 = (0 : Int))) (c25 : ¬ ((Int.tmod v4 10) < (0 : Int))) (h36 : InR .i64 ((Int.tmod v4 10) + 1)) (h37 : (0 : Int) ≤ (Int.tmod v4 10)) (h38 : (0 : Int) ≤ ((Int.tmod v4 10) + 1)) (h39 : (Int.toNat (Int.tmod v4 10)) ≤ (Int.toNat ((Int.tmod v4 10) + 1))) (h40 : (Int.toNat ((Int.tmod v4 10) + 1)) ≤ 10) (s41 : (List UInt8)) (h42 : some ((List.drop (Int.toNat (Int.tmod v4 10)) (List.take (Int.toNat ((Int.tmod v4 10) + 1)) ([48, 49, 50, 51, 52, 53, 54, 55, 56, 57] : List UInt8)))) = some s41) (h43 : s41.length + v3.length ≤ 9223372036854775807) (h44 : InR .i64 (Int.tdiv v4 10)) : Does Tryd.prog GT 0 (bodyAt Tryd.prog 56 [1, 1, 1, 0, 1, 0, 0]) (tollwayref01_Format_L2_H n_0 (v3, v4)) .normal (S 30 [(0, .int .i64 n_0), (3, .str (s41 ++ v3)), (4, .int .i64 (Int.tdiv v4 10))] []) :=
  Does.of_viewM 0 400 ((.op none .c) :: (.op none .a) :: (.br true) :: (.op none .c) :: (.op none .a) :: (cs 2 ((.op none .a) :: (.br false) :: (cs 2 ((.op none .w) :: (.op none (.s (Int.toNat (Int.tmod v4 10)) (Int.toNat ((Int.tmod v4 10) + 1)))) :: (.tr (.eqt (.t 22) (.str s41))) :: (.op none .c) :: (.op none .a) :: (cs 2 [.op none .w, .op none .c])))))) [] (ps := [((!(v4 == (0 : Int))) = true), (10 ≠ (0 : Int)), ((decide ((Int.tmod v4 10) < (0 : Int))) = false), (IntKind.min .i64 ≤ ((Int.tmod v4 10) + 1) ∧ ((Int.tmod v4 10) + 1) ≤ IntKind.max .i64), (((Int.tmod v4 10) + 1) = (((Int.toNat ((Int.tmod v4 10) + 1)) : Nat) : Int)), ((Int.tmod v4 10) = (((Int.toNat (Int.tmod v4 10)) : Nat) : Int)), ((Int.toNat (Int.tmod v4 10)) ≤ (Int.toNat ((Int.tmod v4 10) + 1)) ∧ (Int.toNat ((Int.tmod v4 10) + 1)) ≤ 10), ((.str (List.drop (Int.toNat (Int.tmod v4 10)) (List.take (Int.toNat ((Int.tmod v4 10) + 1)) ([48, 49, 50, 51, 52, 53, 54, 55, 56, 57] : List UInt8))) : AV) = .str s41), (s41.length + v3.length ≤ 9223372036854775807), (10 ≠ (0 : Int)), (IntKind.min .i64 ≤ (Int.tdiv v4 10) ∧ (Int.tdiv v4 10) ≤ IntKind.max .i64)]) (by kernel_rfl) (by kernel_rfl) ⟨(not_t (beq_f c24)), (by decide), (decide_eq_false c25), h36, (Int.toNat_of_nonneg h38).symm, (Int.toNat_of_nonneg h37).symm, ⟨h39, h40⟩, (congrArg _ (Option.some.inj h42)), h43, (by decide), ok1 h44⟩
def tollwayref01_Format_L2_X (n_0 : Int) : (List UInt8) → AEx := fun o => (.exit 0)
def tollwayref01_Format_L2_E (n_0 : Int) : (List UInt8) → St := fun o => S 30 [(0, .int .i64 n_0), (3, .str o)] []
theorem tollwayref01_Format_L2_does (n_0 : Int) {s : ((List UInt8) × Int)} {r : (List UInt8)} (h : lp (tollwayref01_Format_L2_step n_0) s = some r) : Does Tryd.prog GT 0 (.loop (bodyAt Tryd.prog 56 [1, 1, 1, 0, 1, 0, 0])) (tollwayref01_Format_L2_H n_0 s) (tollwayref01_Format_L2_X n_0 r) (tollwayref01_Format_L2_E n_0 r) := by
  refine Does.lp (H := tollwayref01_Format_L2_H n_0) (X := tollwayref01_Format_L2_X n_0) (E := tollwayref01_Format_L2_E n_0) (fun s s2 h => ?_) (fun s r h => ?_) h
  · obtain ⟨v3, v4⟩ := s
    unfold tollwayref01_Format_L2_step at h
    try dsimp only at h
    rcases ite_some h with ⟨c24, h⟩ | ⟨c24, h⟩
    · simp at h
    · rcases ite_some h with ⟨c25, h⟩ | ⟨c25, h⟩
      · obtain ⟨h26, h⟩ := guard_some h
        obtain ⟨h27, h⟩ := guard_some h
        obtain ⟨h28, h⟩ := guard_some h
        obtain ⟨h29, h⟩ := guard_some h
        obtain ⟨h30, h⟩ := guard_some h
        obtain ⟨h31, h⟩ := guard_some h
        obtain ⟨s32, h33, h⟩ := bind_some h
        obtain ⟨h34, h⟩ := guard_some h
        obtain ⟨h35, h⟩ := guard_some h
        simp only [Option.some.injEq, Sum.inl.injEq] at h
        subst h
        have hq := tollwayref01_Format_L2_1 n_0 v3 v4 c24 c25 h26 h27 h28 h29 h30 h31 s32 h33 h34 h35
        first | exact hq | exact Eq.mp (by simp only [tollwayref01_Format_L2_H, List.length_set] <;> rfl) hq
      · obtain ⟨h36, h⟩ := guard_some h
        obtain ⟨h37, h⟩ := guard_some h
        obtain ⟨h38, h⟩ := guard_some h
        obtain ⟨h39, h⟩ := guard_some h
        obtain ⟨h40, h⟩ := guard_some h
        obtain ⟨s41, h42, h⟩ := bind_some h
        obtain ⟨h43, h⟩ := guard_some h
        obtain ⟨h44, h⟩ := guard_some h
        simp only [Option.some.injEq, Sum.inl.injEq] at h
        subst h
        have hq := tollwayref01_Format_L2_2 n_0 v3 v4 c24 c25 h36 h37 h38 h39 h40 s41 h42 h43 h44
        first | exact hq | exact Eq.mp (by simp only [tollwayref01_Format_L2_H, List.length_set] <;> rfl) hq
  · obtain ⟨v3, v4⟩ := s
    unfold tollwayref01_Format_L2_step at h
    try dsimp only at h
    rcases ite_some h with ⟨c24, h⟩ | ⟨c24, h⟩
    · simp only [Option.some.injEq, Sum.inr.injEq] at h
      subst h
      exact ⟨tollwayref01_Format_L2_0 n_0 v3 v4 c24, by intro q; cases q⟩
    · rcases ite_some h with ⟨c25, h⟩ | ⟨c25, h⟩
      · obtain ⟨h26, h⟩ := guard_some h
        obtain ⟨h27, h⟩ := guard_some h
        obtain ⟨h28, h⟩ := guard_some h
        obtain ⟨h29, h⟩ := guard_some h
        obtain ⟨h30, h⟩ := guard_some h
        obtain ⟨h31, h⟩ := guard_some h
        obtain ⟨s32, h33, h⟩ := bind_some h
        obtain ⟨h34, h⟩ := guard_some h
        obtain ⟨h35, h⟩ := guard_some h
        simp at h
      · obtain ⟨h36, h⟩ := guard_some h
        obtain ⟨h37, h⟩ := guard_some h
        obtain ⟨h38, h⟩ := guard_some h
        obtain ⟨h39, h⟩ := guard_some h
        obtain ⟨h40, h⟩ := guard_some h
        obtain ⟨s41, h42, h⟩ := bind_some h
        obtain ⟨h43, h⟩ := guard_some h
        obtain ⟨h44, h⟩ := guard_some h
        simp at h
noncomputable def tollwayref01_Format (n_0 : Int) : Option (List UInt8) :=
  if n_0 = (0 : Int) then
    some ([48] : List UInt8)
  else
    (lp (tollwayref01_Format_L2_step n_0) (([] : List UInt8), n_0)).bind fun o2 =>
    if n_0 < (0 : Int) then
      if ([45] : List UInt8).length + o2.length ≤ 9223372036854775807 then
        some (([45] : List UInt8) ++ o2)
      else none
    else
      some o2
theorem tollwayref01_Format_0 (n_0 : Int) (c1 : n_0 = (0 : Int)) : Ret Tryd.prog GT 56 [.int .i64 n_0] (.str [48]) [] :=
  Ret.of_view 400 (cs 2 [.op none .a, .br true, .op none .c]) [] (ps := [((n_0 == (0 : Int)) = true)]) (by kernel_rfl) (by kernel_rfl) (ok1 (beq_t c1))
theorem tollwayref01_Format_1 (n_0 : Int) (c1 : ¬ (n_0 = (0 : Int))) (o2 : (List UInt8)) (hl2 : lp (tollwayref01_Format_L2_step n_0) (([] : List UInt8), n_0) = some o2) (c45 : n_0 < (0 : Int)) (h46 : ([45] : List UInt8).length + o2.length ≤ 9223372036854775807) : Ret Tryd.prog GT 56 [.int .i64 n_0] (.str (([45] : List UInt8) ++ o2)) [] :=
  Ret.of_view 400 (cs 2 ((.op none .a) :: (.br false) :: (cs 3 ((.fcut 0 (.exit 0) [(0, .int .i64 n_0), (3, .str o2)] [] [] [(0, .int .i64 n_0), (3, .str ([] : List UInt8)), (4, .int .i64 n_0)] []) :: (.op none .c) :: (.op none .a) :: (.br true) :: (.op none .c) :: (.op none .a) :: (cs 3 []))))) [] (ps := [((n_0 == (0 : Int)) = false), ((.int .i64 n_0 : AV) = .int .i64 n_0), ((.str [] : AV) = .str ([] : List UInt8)), ((.int .i64 n_0 : AV) = .int .i64 n_0), (Does Tryd.prog GT 0 (.loop (bodyAt Tryd.prog 56 [1, 1, 1, 0, 1, 0, 0])) (S 30 [(0, .int .i64 n_0), (3, .str ([] : List UInt8)), (4, .int .i64 n_0)] []) (.exit 0) (S 30 [(0, .int .i64 n_0), (3, .str o2)] [])), ((decide (n_0 < (0 : Int))) = true), (([45] : List UInt8).length + o2.length ≤ 9223372036854775807)]) (by kernel_rfl) (by kernel_rfl) ⟨(beq_f c1), rfl, rfl, rfl, (tollwayref01_Format_L2_does n_0 hl2), (decide_eq_true c45), ok1 h46⟩
theorem tollwayref01_Format_2 (n_0 : Int) (c1 : ¬ (n_0 = (0 : Int))) (o2 : (List UInt8)) (hl2 : lp (tollwayref01_Format_L2_step n_0) (([] : List UInt8), n_0) = some o2) (c45 : ¬ (n_0 < (0 : Int))) : Ret Tryd.prog GT 56 [.int .i64 n_0] (.str o2) [] :=
  Ret.of_view 400 (cs 2 ((.op none .a) :: (.br false) :: (cs 3 ((.fcut 0 (.exit 0) [(0, .int .i64 n_0), (3, .str o2)] [] [] [(0, .int .i64 n_0), (3, .str ([] : List UInt8)), (4, .int .i64 n_0)] []) :: (.op none .c) :: (.op none .a) :: (.br false) :: (cs 2 []))))) [] (ps := [((n_0 == (0 : Int)) = false), ((.int .i64 n_0 : AV) = .int .i64 n_0), ((.str [] : AV) = .str ([] : List UInt8)), ((.int .i64 n_0 : AV) = .int .i64 n_0), (Does Tryd.prog GT 0 (.loop (bodyAt Tryd.prog 56 [1, 1, 1, 0, 1, 0, 0])) (S 30 [(0, .int .i64 n_0), (3, .str ([] : List UInt8)), (4, .int .i64 n_0)] []) (.exit 0) (S 30 [(0, .int .i64 n_0), (3, .str o2)] [])), ((decide (n_0 < (0 : Int))) = false)]) (by kernel_rfl) (by kernel_rfl) ⟨(beq_f c1), rfl, rfl, rfl, (tollwayref01_Format_L2_does n_0 hl2), ok1 (decide_eq_false c45)⟩
theorem tollwayref01_Format_ret (n_0 : Int) (r : (List UInt8)) (h : tollwayref01_Format n_0 = some r) : Ret Tryd.prog GT 56 [.int .i64 n_0] (.str r) [] := by
  unfold tollwayref01_Format at h
  rcases ite_some h with ⟨c1, h⟩ | ⟨c1, h⟩
  · simp only [Option.some.injEq] at h
    subst h
    exact tollwayref01_Format_0 n_0 c1
  · obtain ⟨o2, hl2, h⟩ := bind_some h
    rcases ite_some h with ⟨c45, h⟩ | ⟨c45, h⟩
    · obtain ⟨h46, h⟩ := guard_some h
      simp only [Option.some.injEq] at h
      subst h
      exact tollwayref01_Format_1 n_0 c1 o2 hl2 c45 h46
    · simp only [Option.some.injEq] at h
      subst h
      exact tollwayref01_Format_2 n_0 c1 o2 hl2 c45
noncomputable def tollwayref52_key (x_0 : Tapi_Source) : Option (List UInt8) :=
  if x_0.Device.length + ([46] : List UInt8).length ≤ 9223372036854775807 then
    (tollwayref01_Format x_0.Seq).bind fun r2 =>
    if (x_0.Device ++ ([46] : List UInt8)).length + r2.length ≤ 9223372036854775807 then
      some ((x_0.Device ++ ([46] : List UInt8)) ++ r2)
    else none
  else none
theorem tollwayref52_key_0 (x_0 : Tapi_Source) (h1 : x_0.Device.length + ([46] : List UInt8).length ≤ 9223372036854775807) (r2 : (List UInt8)) (h3 : tollwayref01_Format x_0.Seq = some r2) (h4 : (x_0.Device ++ ([46] : List UInt8)).length + r2.length ≤ 9223372036854775807) : Ret Tryd.prog GT 26 [.agg (Tapi_Source.enc x_0)] (.str ((x_0.Device ++ ([46] : List UInt8)) ++ r2)) [] :=
  Ret.of_view 400 (cs 4 ((.op none .a) :: (cs 2 [.ret none [.int .i64 x_0.Seq] (.str r2) [], .op none .a, .op none .c]))) [] (ps := [(x_0.Device.length + ([46] : List UInt8).length ≤ 9223372036854775807), ((.int .i64 x_0.Seq : AV) = .int .i64 x_0.Seq), (Ret Tryd.prog GT 56 [.int .i64 x_0.Seq] (.str r2) []), ((x_0.Device ++ ([46] : List UInt8)).length + r2.length ≤ 9223372036854775807)]) (by kernel_rfl) (by kernel_rfl) ⟨h1, rfl, (tollwayref01_Format_ret x_0.Seq r2 h3), ok1 h4⟩
theorem tollwayref52_key_ret (x_0 : Tapi_Source) (r : (List UInt8)) (h : tollwayref52_key x_0 = some r) : Ret Tryd.prog GT 26 [.agg (Tapi_Source.enc x_0)] (.str r) [] := by
  unfold tollwayref52_key at h
  obtain ⟨h1, h⟩ := guard_some h
  obtain ⟨r2, h3, h⟩ := bind_some h
  obtain ⟨h4, h⟩ := guard_some h
  simp only [Option.some.injEq] at h
  subst h
  exact tollwayref52_key_0 x_0 h1 r2 h3 h4
noncomputable def tollwayref52_is (d_0 : Tapi_Detection) (x_1 : Tapi_Source) : Option Bool :=
  if d_0.Device = x_1.Device then
    some (d_0.Seq == x_1.Seq)
  else
    some false
theorem tollwayref52_is_0 (d_0 : Tapi_Detection) (x_1 : Tapi_Source) (c1 : d_0.Device = x_1.Device) : Ret Tryd.prog GT 27 [.agg (Tapi_Detection.enc d_0), .agg (Tapi_Source.enc x_1)] (.bool (d_0.Seq == x_1.Seq)) [] :=
  Ret.of_view 400 (cs 7 ((.op none .a) :: (.op none .c) :: (.op (some true) .c) :: (cs 3 ((.op none .a) :: (cs 2 []))))) [] (ps := [((d_0.Device == x_1.Device) = true)]) (by kernel_rfl) (by kernel_rfl) (ok1 (beq_t c1))
theorem tollwayref52_is_1 (d_0 : Tapi_Detection) (x_1 : Tapi_Source) (c1 : ¬ (d_0.Device = x_1.Device)) : Ret Tryd.prog GT 27 [.agg (Tapi_Detection.enc d_0), .agg (Tapi_Source.enc x_1)] (.bool false) [] :=
  Ret.of_view 400 (cs 7 ((.op none .a) :: (.op none .c) :: (.op (some false) .c) :: (cs 6 []))) [] (ps := [((d_0.Device == x_1.Device) = false)]) (by kernel_rfl) (by kernel_rfl) (ok1 (beq_f c1))
theorem tollwayref52_is_ret (d_0 : Tapi_Detection) (x_1 : Tapi_Source) (r : Bool) (h : tollwayref52_is d_0 x_1 = some r) : Ret Tryd.prog GT 27 [.agg (Tapi_Detection.enc d_0), .agg (Tapi_Source.enc x_1)] (.bool r) [] := by
  unfold tollwayref52_is at h
  rcases ite_some h with ⟨c1, h⟩ | ⟨c1, h⟩
  · simp only [Option.some.injEq] at h
    subst h
    exact tollwayref52_is_0 d_0 x_1 c1
  · simp only [Option.some.injEq] at h
    subst h
    exact tollwayref52_is_1 d_0 x_1 c1
noncomputable def tollwayref52_Same_L2_step (a_0 : (List Tapi_Fact)) (b_1 : (List Tapi_Fact)) : Nat → Option (Nat ⊕ (Unit ⊕ Unit)) := fun k5 =>
  if (↑k5 : Int) < (↑a_0.length : Int) then
    (a_0[k5]?).bind fun x11 =>
    (b_1[k5]?).bind fun x13 =>
    if ((x11.Kind == x13.Kind) && ((x11.Key == x13.Key) && ((x11.Why == x13.Why) && true))) = true then
      if InR .i64 ((↑k5 : Int) + 1) then
        some (Sum.inl (k5 + 1))
      else none
    else
      some (Sum.inr (Sum.inl ()))
  else
    some (Sum.inr (Sum.inr (())))
def tollwayref52_Same_L2_H (a_0 : (List Tapi_Fact)) (b_1 : (List Tapi_Fact)) : Nat → St := fun (s : Nat) => S 26 [(0, .lst (fl Tapi_Fact.enc a_0) a_0.length), (1, .lst (fl Tapi_Fact.enc b_1) b_1.length), (5, .int .i64 (↑s : Int))] []
theorem tollwayref52_Same_L2_0 (a_0 : (List Tapi_Fact)) (b_1 : (List Tapi_Fact)) (k5 : Nat) (c10 : (↑k5 : Int) < (↑a_0.length : Int)) (x11 : Tapi_Fact) (h12 : a_0[k5]? = some x11) (x13 : Tapi_Fact) (h14 : b_1[k5]? = some x13) (c15 : ((x11.Kind == x13.Kind) && ((x11.Key == x13.Key) && ((x11.Why == x13.Why) && true))) = true) (h16 : InR .i64 ((↑k5 : Int) + 1)) : Does Tryd.prog GT 0 (bodyAt Tryd.prog 11 [1, 1, 0, 1, 0, 0]) (tollwayref52_Same_L2_H a_0 b_1 k5) .normal (S 26 [(0, .lst (fl Tapi_Fact.enc a_0) a_0.length), (1, .lst (fl Tapi_Fact.enc b_1) b_1.length), (5, .int .i64 ((↑k5 : Int) + 1))] []) :=
  Does.of_viewM 0 400 (cs 3 ((.op none .a) :: (.br true) :: (cs 2 ((.op none (.i k5)) :: (.op none (.v [.str x11.Kind, .str x11.Key, .int .i64 x11.Why])) :: (cs 2 [.op none (.i k5), .op none (.v [.str x13.Kind, .str x13.Key, .int .i64 x13.Why]), .op none .c, .br false, .op none .c, .op none .w, .op none .c]))))) [] (ps := [((decide ((↑k5 : Int) < (↑a_0.length : Int))) = true), ((↑k5 : Int) = ((k5 : Nat) : Int) ∧ k5 < a_0.length), ((fl Tapi_Fact.enc a_0) ≠ []), (sub (fl Tapi_Fact.enc a_0) (k5 * 3) 3 = [.str x11.Kind, .str x11.Key, .int .i64 x11.Why]), ((↑k5 : Int) = ((k5 : Nat) : Int) ∧ k5 < b_1.length), ((fl Tapi_Fact.enc b_1) ≠ []), (sub (fl Tapi_Fact.enc b_1) (k5 * 3) 3 = [.str x13.Kind, .str x13.Key, .int .i64 x13.Why]), ((!((x11.Kind == x13.Kind) && ((x11.Key == x13.Key) && ((x11.Why == x13.Why) && true)))) = false), (IntKind.min .i64 ≤ ((↑k5 : Int) + 1) ∧ ((↑k5 : Int) + 1) ≤ IntKind.max .i64)]) (by kernel_rfl) (by kernel_rfl) ⟨(decide_eq_true c10), ⟨rfl, get_lt h12⟩, (fl_ne (f := Tapi_Fact.enc) (z := 2) (fun _ => rfl) h12), (fl_sub0 (f := Tapi_Fact.enc) (z := 3) (j := k5) (fun _ => rfl) h12 rfl), ⟨rfl, get_lt h14⟩, (fl_ne (f := Tapi_Fact.enc) (z := 2) (fun _ => rfl) h14), (fl_sub0 (f := Tapi_Fact.enc) (z := 3) (j := k5) (fun _ => rfl) h14 rfl), (not_f c15), ok1 h16⟩
theorem tollwayref52_Same_L2_1 (a_0 : (List Tapi_Fact)) (b_1 : (List Tapi_Fact)) (k5 : Nat) (c10 : (↑k5 : Int) < (↑a_0.length : Int)) (x11 : Tapi_Fact) (h12 : a_0[k5]? = some x11) (x13 : Tapi_Fact) (h14 : b_1[k5]? = some x13) (c15 : ¬ (((x11.Kind == x13.Kind) && ((x11.Key == x13.Key) && ((x11.Why == x13.Why) && true))) = true)) : Does Tryd.prog GT 0 (bodyAt Tryd.prog 11 [1, 1, 0, 1, 0, 0]) (tollwayref52_Same_L2_H a_0 b_1 k5) .ret (S 26 [(4, .bool false)] []) :=
  Does.of_viewM 0 400 (cs 3 ((.op none .a) :: (.br true) :: (cs 2 ((.op none (.i k5)) :: (.op none (.v [.str x11.Kind, .str x11.Key, .int .i64 x11.Why])) :: (cs 2 [.op none (.i k5), .op none (.v [.str x13.Kind, .str x13.Key, .int .i64 x13.Why]), .op none .c, .br true, .op none .c]))))) [] (ps := [((decide ((↑k5 : Int) < (↑a_0.length : Int))) = true), ((↑k5 : Int) = ((k5 : Nat) : Int) ∧ k5 < a_0.length), ((fl Tapi_Fact.enc a_0) ≠ []), (sub (fl Tapi_Fact.enc a_0) (k5 * 3) 3 = [.str x11.Kind, .str x11.Key, .int .i64 x11.Why]), ((↑k5 : Int) = ((k5 : Nat) : Int) ∧ k5 < b_1.length), ((fl Tapi_Fact.enc b_1) ≠ []), (sub (fl Tapi_Fact.enc b_1) (k5 * 3) 3 = [.str x13.Kind, .str x13.Key, .int .i64 x13.Why]), ((!((x11.Kind == x13.Kind) && ((x11.Key == x13.Key) && ((x11.Why == x13.Why) && true)))) = true)]) (by kernel_rfl) (by kernel_rfl) ⟨(decide_eq_true c10), ⟨rfl, get_lt h12⟩, (fl_ne (f := Tapi_Fact.enc) (z := 2) (fun _ => rfl) h12), (fl_sub0 (f := Tapi_Fact.enc) (z := 3) (j := k5) (fun _ => rfl) h12 rfl), ⟨rfl, get_lt h14⟩, (fl_ne (f := Tapi_Fact.enc) (z := 2) (fun _ => rfl) h14), (fl_sub0 (f := Tapi_Fact.enc) (z := 3) (j := k5) (fun _ => rfl) h14 rfl), ok1 (not_t (eq_false_of_ne_true c15))⟩
theorem tollwayref52_Same_L2_2 (a_0 : (List Tapi_Fact)) (b_1 : (List Tapi_Fact)) (k5 : Nat) (c10 : ¬ ((↑k5 : Int) < (↑a_0.length : Int))) : Does Tryd.prog GT 0 (bodyAt Tryd.prog 11 [1, 1, 0, 1, 0, 0]) (tollwayref52_Same_L2_H a_0 b_1 k5) (.exit 0) (S 26 [] []) :=
  Does.of_viewM 0 400 (cs 3 [.op none .a, .br false]) [] (ps := [((decide ((↑k5 : Int) < (↑a_0.length : Int))) = false)]) (by kernel_rfl) (by kernel_rfl) (ok1 (decide_eq_false c10))
def tollwayref52_Same_L2_X (a_0 : (List Tapi_Fact)) (b_1 : (List Tapi_Fact)) : (Unit ⊕ Unit) → AEx := fun q => match q with | Sum.inl o => .ret | Sum.inr (o) => (.exit 0)
def tollwayref52_Same_L2_E (a_0 : (List Tapi_Fact)) (b_1 : (List Tapi_Fact)) : (Unit ⊕ Unit) → St := fun q => match q with | Sum.inl o => S 26 [(4, .bool false)] [] | Sum.inr (o) => S 26 [] []
theorem tollwayref52_Same_L2_does (a_0 : (List Tapi_Fact)) (b_1 : (List Tapi_Fact)) {s : Nat} {r : Unit ⊕ Unit} (h : lp (tollwayref52_Same_L2_step a_0 b_1) s = some r) : Does Tryd.prog GT 0 (.loop (bodyAt Tryd.prog 11 [1, 1, 0, 1, 0, 0])) (tollwayref52_Same_L2_H a_0 b_1 s) (tollwayref52_Same_L2_X a_0 b_1 r) (tollwayref52_Same_L2_E a_0 b_1 r) := by
  refine Does.lp (H := tollwayref52_Same_L2_H a_0 b_1) (X := tollwayref52_Same_L2_X a_0 b_1) (E := tollwayref52_Same_L2_E a_0 b_1) (fun s s2 h => ?_) (fun s r h => ?_) h
  · revert h; revert s; intro k5 h
    unfold tollwayref52_Same_L2_step at h
    try dsimp only at h
    rcases ite_some h with ⟨c10, h⟩ | ⟨c10, h⟩
    · obtain ⟨x11, h12, h⟩ := bind_some h
      obtain ⟨x13, h14, h⟩ := bind_some h
      rcases ite_some h with ⟨c15, h⟩ | ⟨c15, h⟩
      · obtain ⟨h16, h⟩ := guard_some h
        simp only [Option.some.injEq, Sum.inl.injEq] at h
        subst h
        have hq := tollwayref52_Same_L2_0 a_0 b_1 k5 c10 x11 h12 x13 h14 c15 h16
        first | exact hq | exact Eq.mp (by simp only [tollwayref52_Same_L2_H, List.length_set] <;> rfl) hq
      · simp at h
    · simp at h
  · revert h; revert s; intro k5 h
    unfold tollwayref52_Same_L2_step at h
    try dsimp only at h
    rcases ite_some h with ⟨c10, h⟩ | ⟨c10, h⟩
    · obtain ⟨x11, h12, h⟩ := bind_some h
      obtain ⟨x13, h14, h⟩ := bind_some h
      rcases ite_some h with ⟨c15, h⟩ | ⟨c15, h⟩
      · obtain ⟨h16, h⟩ := guard_some h
        simp at h
      · simp only [Option.some.injEq, Sum.inr.injEq] at h
        subst h
        exact ⟨tollwayref52_Same_L2_1 a_0 b_1 k5 c10 x11 h12 x13 h14 c15, by intro q; cases q⟩
    · simp only [Option.some.injEq, Sum.inr.injEq] at h
      subst h
      exact ⟨tollwayref52_Same_L2_2 a_0 b_1 k5 c10, by intro q; cases q⟩
noncomputable def tollwayref52_Same (a_0 : (List Tapi_Fact)) (b_1 : (List Tapi_Fact)) : Option Bool :=
  if (↑a_0.length : Int) = (↑b_1.length : Int) then
    (lp (tollwayref52_Same_L2_step a_0 b_1) (0 : Nat)).bind fun qq => match qq with
    | Sum.inl o2 =>
      some false
    | Sum.inr (o2) =>
      some true
  else
    some false
theorem tollwayref52_Same_0 (a_0 : (List Tapi_Fact)) (b_1 : (List Tapi_Fact)) (c1 : (↑a_0.length : Int) = (↑b_1.length : Int)) (o2 : Unit) (hl2 : lp (tollwayref52_Same_L2_step a_0 b_1) (0 : Nat) = some (Sum.inl o2)) : Ret Tryd.prog GT 11 [.lst (fl Tapi_Fact.enc a_0) a_0.length, .lst (fl Tapi_Fact.enc b_1) b_1.length] (.bool false) [] :=
  Ret.of_view 400 (cs 5 [.op none .a, .br false, .op none .c, .fcut 0 .ret [(4, .bool false)] [] [] [(0, .lst (fl Tapi_Fact.enc a_0) a_0.length), (1, .lst (fl Tapi_Fact.enc b_1) b_1.length), (5, .int .i64 (↑(0 : Nat) : Int))] []]) [] (ps := [((!((↑a_0.length : Int) == (↑b_1.length : Int))) = false), ((.lst (fl Tapi_Fact.enc a_0) a_0.length : AV) = .lst (fl Tapi_Fact.enc a_0) a_0.length), ((.lst (fl Tapi_Fact.enc b_1) b_1.length : AV) = .lst (fl Tapi_Fact.enc b_1) b_1.length), ((.int .i64 0 : AV) = .int .i64 (↑(0 : Nat) : Int)), (Does Tryd.prog GT 0 (.loop (bodyAt Tryd.prog 11 [1, 1, 0, 1, 0, 0])) (S 26 [(0, .lst (fl Tapi_Fact.enc a_0) a_0.length), (1, .lst (fl Tapi_Fact.enc b_1) b_1.length), (5, .int .i64 (↑(0 : Nat) : Int))] []) .ret (S 26 [(4, .bool false)] []))]) (by kernel_rfl) (by kernel_rfl) ⟨(not_f (beq_t c1)), rfl, rfl, rfl, ok1 (tollwayref52_Same_L2_does a_0 b_1 hl2)⟩
theorem tollwayref52_Same_1 (a_0 : (List Tapi_Fact)) (b_1 : (List Tapi_Fact)) (c1 : (↑a_0.length : Int) = (↑b_1.length : Int)) (o2 : Unit) (hl2 : lp (tollwayref52_Same_L2_step a_0 b_1) (0 : Nat) = some (Sum.inr (o2))) : Ret Tryd.prog GT 11 [.lst (fl Tapi_Fact.enc a_0) a_0.length, .lst (fl Tapi_Fact.enc b_1) b_1.length] (.bool true) [] :=
  Ret.of_view 400 (cs 5 [.op none .a, .br false, .op none .c, .fcut 0 (.exit 0) [] [] [] [(0, .lst (fl Tapi_Fact.enc a_0) a_0.length), (1, .lst (fl Tapi_Fact.enc b_1) b_1.length), (5, .int .i64 (↑(0 : Nat) : Int))] [], .op none .c]) [] (ps := [((!((↑a_0.length : Int) == (↑b_1.length : Int))) = false), ((.lst (fl Tapi_Fact.enc a_0) a_0.length : AV) = .lst (fl Tapi_Fact.enc a_0) a_0.length), ((.lst (fl Tapi_Fact.enc b_1) b_1.length : AV) = .lst (fl Tapi_Fact.enc b_1) b_1.length), ((.int .i64 0 : AV) = .int .i64 (↑(0 : Nat) : Int)), (Does Tryd.prog GT 0 (.loop (bodyAt Tryd.prog 11 [1, 1, 0, 1, 0, 0])) (S 26 [(0, .lst (fl Tapi_Fact.enc a_0) a_0.length), (1, .lst (fl Tapi_Fact.enc b_1) b_1.length), (5, .int .i64 (↑(0 : Nat) : Int))] []) (.exit 0) (S 26 [] []))]) (by kernel_rfl) (by kernel_rfl) ⟨(not_f (beq_t c1)), rfl, rfl, rfl, ok1 (tollwayref52_Same_L2_does a_0 b_1 hl2)⟩
theorem tollwayref52_Same_2 (a_0 : (List Tapi_Fact)) (b_1 : (List Tapi_Fact)) (c1 : ¬ ((↑a_0.length : Int) = (↑b_1.length : Int))) : Ret Tryd.prog GT 11 [.lst (fl Tapi_Fact.enc a_0) a_0.length, .lst (fl Tapi_Fact.enc b_1) b_1.length] (.bool false) [] :=
  Ret.of_view 400 (cs 5 [.op none .a, .br true, .op none .c]) [] (ps := [((!((↑a_0.length : Int) == (↑b_1.length : Int))) = true)]) (by kernel_rfl) (by kernel_rfl) (ok1 (not_t (beq_f c1)))
theorem tollwayref52_Same_ret (a_0 : (List Tapi_Fact)) (b_1 : (List Tapi_Fact)) (r : Bool) (h : tollwayref52_Same a_0 b_1 = some r) : Ret Tryd.prog GT 11 [.lst (fl Tapi_Fact.enc a_0) a_0.length, .lst (fl Tapi_Fact.enc b_1) b_1.length] (.bool r) [] := by
  unfold tollwayref52_Same at h
  rcases ite_some h with ⟨c1, h⟩ | ⟨c1, h⟩
  · obtain ⟨qq, hl2, h⟩ := bind_some h
    rcases qq with o2 | o2
    · dsimp only at h
      simp only [Option.some.injEq] at h
      subst h
      exact tollwayref52_Same_0 a_0 b_1 c1 o2 hl2
    · dsimp only at h
      simp only [Option.some.injEq] at h
      subst h
      exact tollwayref52_Same_1 a_0 b_1 c1 o2 hl2
  · simp only [Option.some.injEq] at h
    subst h
    exact tollwayref52_Same_2 a_0 b_1 c1
noncomputable def tollwayref52_known_L1_step (s_0 : Tapi_State) (x_1 : Tapi_Source) : Nat → Option (Nat ⊕ (Unit ⊕ Unit)) := fun k5 =>
  if (↑k5 : Int) < (↑s_0.Seen.length : Int) then
    (s_0.Seen[k5]?).bind fun x10 =>
    (tollwayref52_is x10.D x_1).bind fun r12 =>
    if r12 = true then
      some (Sum.inr (Sum.inl ()))
    else
      if InR .i64 ((↑k5 : Int) + 1) then
        some (Sum.inl (k5 + 1))
      else none
  else
    some (Sum.inr (Sum.inr (())))
def tollwayref52_known_L1_H (s_0 : Tapi_State) (x_1 : Tapi_Source) : Nat → St := fun (s : Nat) => S 55 [(2, .ptr 0 0), (3, .ptr 1 0), (5, .int .i64 (↑s : Int))] [{ c := (Tapi_State.enc s_0), e := 64, ext := false, fz := 0, pl := true, o := false }, { c := (Tapi_Source.enc x_1), e := 66, ext := false, fz := 0, pl := true, o := false }]
theorem tollwayref52_known_L1_0 (s_0 : Tapi_State) (x_1 : Tapi_Source) (k5 : Nat) (c9 : (↑k5 : Int) < (↑s_0.Seen.length : Int)) (x10 : Tapi_Seen) (h11 : s_0.Seen[k5]? = some x10) (r12 : Bool) (h13 : tollwayref52_is x10.D x_1 = some r12) (c14 : r12 = true) : Does Tryd.prog GT 2 (bodyAt Tryd.prog 25 [1, 0, 1, 0, 0]) (tollwayref52_known_L1_H s_0 x_1 k5) .ret (S 55 [(4, .bool true)] [{ c := (Tapi_State.enc s_0), e := 64, ext := false, fz := 0, pl := true, o := false }, { c := (Tapi_Source.enc x_1), e := 66, ext := false, fz := 0, pl := true, o := false }]) :=
  Does.of_viewM 2 400 (cs 4 ((.op none .a) :: (.br true) :: (cs 3 [.op none (.i k5), .op none .c, .op none (.v [.str x10.D.Device, .int .i64 x10.D.Seq, .int .i64 x10.D.Time, .str x10.D.Tag, .str x10.D.Plate, .int .i64 x10.D.Axles, .int .i64 x10.D.Score]), .op none .c, .ret none [.agg (Tapi_Detection.enc x10.D), .agg (Tapi_Source.enc x_1)] (.bool r12) [], .br true, .op none .c]))) [0, 1] (ps := [((decide ((↑k5 : Int) < (↑s_0.Seen.length : Int))) = true), ((↑k5 : Int) = ((k5 : Nat) : Int) ∧ k5 < s_0.Seen.length), ((fl Tapi_Seen.enc s_0.Seen) ≠ []), (sub (fl Tapi_Seen.enc s_0.Seen) (k5 * 11) 7 = [.str x10.D.Device, .int .i64 x10.D.Seq, .int .i64 x10.D.Time, .str x10.D.Tag, .str x10.D.Plate, .int .i64 x10.D.Axles, .int .i64 x10.D.Score]), ((.agg (Tapi_Detection.enc x10.D) : AV) = .agg (Tapi_Detection.enc x10.D)), ((.agg (Tapi_Source.enc x_1) : AV) = .agg (Tapi_Source.enc x_1)), (Ret Tryd.prog GT 27 [.agg (Tapi_Detection.enc x10.D), .agg (Tapi_Source.enc x_1)] (.bool r12) []), (r12 = true)]) (by kernel_rfl) (by kernel_rfl) ⟨(decide_eq_true c9), ⟨rfl, get_lt h11⟩, (fl_ne (f := Tapi_Seen.enc) (z := 10) (fun _ => rfl) h11), (fl_sub (f := Tapi_Seen.enc) (z := 11) (j := k5) (a := 0) (n := 7) (fun _ => rfl) h11 (by decide) rfl), rfl, rfl, (tollwayref52_is_ret x10.D x_1 r12 h13), ok1 c14⟩
theorem tollwayref52_known_L1_1 (s_0 : Tapi_State) (x_1 : Tapi_Source) (k5 : Nat) (c9 : (↑k5 : Int) < (↑s_0.Seen.length : Int)) (x10 : Tapi_Seen) (h11 : s_0.Seen[k5]? = some x10) (r12 : Bool) (h13 : tollwayref52_is x10.D x_1 = some r12) (c14 : ¬ (r12 = true)) (h15 : InR .i64 ((↑k5 : Int) + 1)) : Does Tryd.prog GT 2 (bodyAt Tryd.prog 25 [1, 0, 1, 0, 0]) (tollwayref52_known_L1_H s_0 x_1 k5) .normal (S 55 [(2, .ptr 0 0), (3, .ptr 1 0), (5, .int .i64 ((↑k5 : Int) + 1))] [{ c := (Tapi_State.enc s_0), e := 64, ext := false, fz := 0, pl := true, o := false }, { c := (Tapi_Source.enc x_1), e := 66, ext := false, fz := 0, pl := true, o := false }]) :=
  Does.of_viewM 2 400 (cs 4 ((.op none .a) :: (.br true) :: (cs 3 [.op none (.i k5), .op none .c, .op none (.v [.str x10.D.Device, .int .i64 x10.D.Seq, .int .i64 x10.D.Time, .str x10.D.Tag, .str x10.D.Plate, .int .i64 x10.D.Axles, .int .i64 x10.D.Score]), .op none .c, .ret none [.agg (Tapi_Detection.enc x10.D), .agg (Tapi_Source.enc x_1)] (.bool r12) [], .br false, .op none .c, .op none .w, .op none .c]))) [0, 1] (ps := [((decide ((↑k5 : Int) < (↑s_0.Seen.length : Int))) = true), ((↑k5 : Int) = ((k5 : Nat) : Int) ∧ k5 < s_0.Seen.length), ((fl Tapi_Seen.enc s_0.Seen) ≠ []), (sub (fl Tapi_Seen.enc s_0.Seen) (k5 * 11) 7 = [.str x10.D.Device, .int .i64 x10.D.Seq, .int .i64 x10.D.Time, .str x10.D.Tag, .str x10.D.Plate, .int .i64 x10.D.Axles, .int .i64 x10.D.Score]), ((.agg (Tapi_Detection.enc x10.D) : AV) = .agg (Tapi_Detection.enc x10.D)), ((.agg (Tapi_Source.enc x_1) : AV) = .agg (Tapi_Source.enc x_1)), (Ret Tryd.prog GT 27 [.agg (Tapi_Detection.enc x10.D), .agg (Tapi_Source.enc x_1)] (.bool r12) []), (r12 = false), (IntKind.min .i64 ≤ ((↑k5 : Int) + 1) ∧ ((↑k5 : Int) + 1) ≤ IntKind.max .i64)]) (by kernel_rfl) (by kernel_rfl) ⟨(decide_eq_true c9), ⟨rfl, get_lt h11⟩, (fl_ne (f := Tapi_Seen.enc) (z := 10) (fun _ => rfl) h11), (fl_sub (f := Tapi_Seen.enc) (z := 11) (j := k5) (a := 0) (n := 7) (fun _ => rfl) h11 (by decide) rfl), rfl, rfl, (tollwayref52_is_ret x10.D x_1 r12 h13), (eq_false_of_ne_true c14), ok1 h15⟩
theorem tollwayref52_known_L1_2 (s_0 : Tapi_State) (x_1 : Tapi_Source) (k5 : Nat) (c9 : ¬ ((↑k5 : Int) < (↑s_0.Seen.length : Int))) : Does Tryd.prog GT 2 (bodyAt Tryd.prog 25 [1, 0, 1, 0, 0]) (tollwayref52_known_L1_H s_0 x_1 k5) (.exit 0) (S 55 [(2, .ptr 0 0), (3, .ptr 1 0)] [{ c := (Tapi_State.enc s_0), e := 64, ext := false, fz := 0, pl := true, o := false }, { c := (Tapi_Source.enc x_1), e := 66, ext := false, fz := 0, pl := true, o := false }]) :=
  Does.of_viewM 2 400 (cs 4 [.op none .a, .br false]) [0, 1] (ps := [((decide ((↑k5 : Int) < (↑s_0.Seen.length : Int))) = false)]) (by kernel_rfl) (by kernel_rfl) (ok1 (decide_eq_false c9))
def tollwayref52_known_L1_X (s_0 : Tapi_State) (x_1 : Tapi_Source) : (Unit ⊕ Unit) → AEx := fun q => match q with | Sum.inl o => .ret | Sum.inr (o) => (.exit 0)
def tollwayref52_known_L1_E (s_0 : Tapi_State) (x_1 : Tapi_Source) : (Unit ⊕ Unit) → St := fun q => match q with | Sum.inl o => S 55 [(4, .bool true)] [{ c := (Tapi_State.enc s_0), e := 64, ext := false, fz := 0, pl := true, o := false }, { c := (Tapi_Source.enc x_1), e := 66, ext := false, fz := 0, pl := true, o := false }] | Sum.inr (o) => S 55 [(2, .ptr 0 0), (3, .ptr 1 0)] [{ c := (Tapi_State.enc s_0), e := 64, ext := false, fz := 0, pl := true, o := false }, { c := (Tapi_Source.enc x_1), e := 66, ext := false, fz := 0, pl := true, o := false }]
theorem tollwayref52_known_L1_does (s_0 : Tapi_State) (x_1 : Tapi_Source) {s : Nat} {r : Unit ⊕ Unit} (h : lp (tollwayref52_known_L1_step s_0 x_1) s = some r) : Does Tryd.prog GT 2 (.loop (bodyAt Tryd.prog 25 [1, 0, 1, 0, 0])) (tollwayref52_known_L1_H s_0 x_1 s) (tollwayref52_known_L1_X s_0 x_1 r) (tollwayref52_known_L1_E s_0 x_1 r) := by
  refine Does.lp (H := tollwayref52_known_L1_H s_0 x_1) (X := tollwayref52_known_L1_X s_0 x_1) (E := tollwayref52_known_L1_E s_0 x_1) (fun s s2 h => ?_) (fun s r h => ?_) h
  · revert h; revert s; intro k5 h
    unfold tollwayref52_known_L1_step at h
    try dsimp only at h
    rcases ite_some h with ⟨c9, h⟩ | ⟨c9, h⟩
    · obtain ⟨x10, h11, h⟩ := bind_some h
      obtain ⟨r12, h13, h⟩ := bind_some h
      rcases ite_some h with ⟨c14, h⟩ | ⟨c14, h⟩
      · simp at h
      · obtain ⟨h15, h⟩ := guard_some h
        simp only [Option.some.injEq, Sum.inl.injEq] at h
        subst h
        have hq := tollwayref52_known_L1_1 s_0 x_1 k5 c9 x10 h11 r12 h13 c14 h15
        first | exact hq | exact Eq.mp (by simp only [tollwayref52_known_L1_H, List.length_set] <;> rfl) hq
    · simp at h
  · revert h; revert s; intro k5 h
    unfold tollwayref52_known_L1_step at h
    try dsimp only at h
    rcases ite_some h with ⟨c9, h⟩ | ⟨c9, h⟩
    · obtain ⟨x10, h11, h⟩ := bind_some h
      obtain ⟨r12, h13, h⟩ := bind_some h
      rcases ite_some h with ⟨c14, h⟩ | ⟨c14, h⟩
      · simp only [Option.some.injEq, Sum.inr.injEq] at h
        subst h
        exact ⟨tollwayref52_known_L1_0 s_0 x_1 k5 c9 x10 h11 r12 h13 c14, by intro q; cases q⟩
      · obtain ⟨h15, h⟩ := guard_some h
        simp at h
    · simp only [Option.some.injEq, Sum.inr.injEq] at h
      subst h
      exact ⟨tollwayref52_known_L1_2 s_0 x_1 k5 c9, by intro q; cases q⟩
noncomputable def tollwayref52_known_L16_step (s_0 : Tapi_State) (x_1 : Tapi_Source) : Nat → Option (Nat ⊕ (Unit ⊕ Unit)) := fun k6 =>
  if (↑k6 : Int) < (↑s_0.Rejects.length : Int) then
    (s_0.Rejects[k6]?).bind fun x25 =>
    (tollwayref52_is x25.D x_1).bind fun r27 =>
    if r27 = true then
      some (Sum.inr (Sum.inl ()))
    else
      if InR .i64 ((↑k6 : Int) + 1) then
        some (Sum.inl (k6 + 1))
      else none
  else
    some (Sum.inr (Sum.inr (())))
def tollwayref52_known_L16_H (s_0 : Tapi_State) (x_1 : Tapi_Source) : Nat → St := fun (s : Nat) => S 55 [(2, .ptr 0 0), (3, .ptr 1 0), (6, .int .i64 (↑s : Int))] [{ c := (Tapi_State.enc s_0), e := 64, ext := false, fz := 0, pl := true, o := false }, { c := (Tapi_Source.enc x_1), e := 66, ext := false, fz := 0, pl := true, o := false }]
theorem tollwayref52_known_L16_0 (s_0 : Tapi_State) (x_1 : Tapi_Source) (k6 : Nat) (c24 : (↑k6 : Int) < (↑s_0.Rejects.length : Int)) (x25 : Tapi_Reject) (h26 : s_0.Rejects[k6]? = some x25) (r27 : Bool) (h28 : tollwayref52_is x25.D x_1 = some r27) (c29 : r27 = true) : Does Tryd.prog GT 2 (bodyAt Tryd.prog 25 [1, 1, 0, 1, 0, 0]) (tollwayref52_known_L16_H s_0 x_1 k6) .ret (S 55 [(4, .bool true)] [{ c := (Tapi_State.enc s_0), e := 64, ext := false, fz := 0, pl := true, o := false }, { c := (Tapi_Source.enc x_1), e := 66, ext := false, fz := 0, pl := true, o := false }]) :=
  Does.of_viewM 2 400 (cs 4 ((.op none .a) :: (.br true) :: (cs 3 [.op none (.i k6), .op none .c, .op none (.v [.str x25.D.Device, .int .i64 x25.D.Seq, .int .i64 x25.D.Time, .str x25.D.Tag, .str x25.D.Plate, .int .i64 x25.D.Axles, .int .i64 x25.D.Score]), .op none .c, .ret none [.agg (Tapi_Detection.enc x25.D), .agg (Tapi_Source.enc x_1)] (.bool r27) [], .br true, .op none .c]))) [0, 1] (ps := [((decide ((↑k6 : Int) < (↑s_0.Rejects.length : Int))) = true), ((↑k6 : Int) = ((k6 : Nat) : Int) ∧ k6 < s_0.Rejects.length), ((fl Tapi_Reject.enc s_0.Rejects) ≠ []), (sub (fl Tapi_Reject.enc s_0.Rejects) (k6 * 8) 7 = [.str x25.D.Device, .int .i64 x25.D.Seq, .int .i64 x25.D.Time, .str x25.D.Tag, .str x25.D.Plate, .int .i64 x25.D.Axles, .int .i64 x25.D.Score]), ((.agg (Tapi_Detection.enc x25.D) : AV) = .agg (Tapi_Detection.enc x25.D)), ((.agg (Tapi_Source.enc x_1) : AV) = .agg (Tapi_Source.enc x_1)), (Ret Tryd.prog GT 27 [.agg (Tapi_Detection.enc x25.D), .agg (Tapi_Source.enc x_1)] (.bool r27) []), (r27 = true)]) (by kernel_rfl) (by kernel_rfl) ⟨(decide_eq_true c24), ⟨rfl, get_lt h26⟩, (fl_ne (f := Tapi_Reject.enc) (z := 7) (fun _ => rfl) h26), (fl_sub (f := Tapi_Reject.enc) (z := 8) (j := k6) (a := 0) (n := 7) (fun _ => rfl) h26 (by decide) rfl), rfl, rfl, (tollwayref52_is_ret x25.D x_1 r27 h28), ok1 c29⟩
theorem tollwayref52_known_L16_1 (s_0 : Tapi_State) (x_1 : Tapi_Source) (k6 : Nat) (c24 : (↑k6 : Int) < (↑s_0.Rejects.length : Int)) (x25 : Tapi_Reject) (h26 : s_0.Rejects[k6]? = some x25) (r27 : Bool) (h28 : tollwayref52_is x25.D x_1 = some r27) (c29 : ¬ (r27 = true)) (h30 : InR .i64 ((↑k6 : Int) + 1)) : Does Tryd.prog GT 2 (bodyAt Tryd.prog 25 [1, 1, 0, 1, 0, 0]) (tollwayref52_known_L16_H s_0 x_1 k6) .normal (S 55 [(2, .ptr 0 0), (3, .ptr 1 0), (6, .int .i64 ((↑k6 : Int) + 1))] [{ c := (Tapi_State.enc s_0), e := 64, ext := false, fz := 0, pl := true, o := false }, { c := (Tapi_Source.enc x_1), e := 66, ext := false, fz := 0, pl := true, o := false }]) :=
  Does.of_viewM 2 400 (cs 4 ((.op none .a) :: (.br true) :: (cs 3 [.op none (.i k6), .op none .c, .op none (.v [.str x25.D.Device, .int .i64 x25.D.Seq, .int .i64 x25.D.Time, .str x25.D.Tag, .str x25.D.Plate, .int .i64 x25.D.Axles, .int .i64 x25.D.Score]), .op none .c, .ret none [.agg (Tapi_Detection.enc x25.D), .agg (Tapi_Source.enc x_1)] (.bool r27) [], .br false, .op none .c, .op none .w, .op none .c]))) [0, 1] (ps := [((decide ((↑k6 : Int) < (↑s_0.Rejects.length : Int))) = true), ((↑k6 : Int) = ((k6 : Nat) : Int) ∧ k6 < s_0.Rejects.length), ((fl Tapi_Reject.enc s_0.Rejects) ≠ []), (sub (fl Tapi_Reject.enc s_0.Rejects) (k6 * 8) 7 = [.str x25.D.Device, .int .i64 x25.D.Seq, .int .i64 x25.D.Time, .str x25.D.Tag, .str x25.D.Plate, .int .i64 x25.D.Axles, .int .i64 x25.D.Score]), ((.agg (Tapi_Detection.enc x25.D) : AV) = .agg (Tapi_Detection.enc x25.D)), ((.agg (Tapi_Source.enc x_1) : AV) = .agg (Tapi_Source.enc x_1)), (Ret Tryd.prog GT 27 [.agg (Tapi_Detection.enc x25.D), .agg (Tapi_Source.enc x_1)] (.bool r27) []), (r27 = false), (IntKind.min .i64 ≤ ((↑k6 : Int) + 1) ∧ ((↑k6 : Int) + 1) ≤ IntKind.max .i64)]) (by kernel_rfl) (by kernel_rfl) ⟨(decide_eq_true c24), ⟨rfl, get_lt h26⟩, (fl_ne (f := Tapi_Reject.enc) (z := 7) (fun _ => rfl) h26), (fl_sub (f := Tapi_Reject.enc) (z := 8) (j := k6) (a := 0) (n := 7) (fun _ => rfl) h26 (by decide) rfl), rfl, rfl, (tollwayref52_is_ret x25.D x_1 r27 h28), (eq_false_of_ne_true c29), ok1 h30⟩
theorem tollwayref52_known_L16_2 (s_0 : Tapi_State) (x_1 : Tapi_Source) (k6 : Nat) (c24 : ¬ ((↑k6 : Int) < (↑s_0.Rejects.length : Int))) : Does Tryd.prog GT 2 (bodyAt Tryd.prog 25 [1, 1, 0, 1, 0, 0]) (tollwayref52_known_L16_H s_0 x_1 k6) (.exit 2) (S 55 [(2, .ptr 0 0), (3, .ptr 1 0)] [{ c := (Tapi_State.enc s_0), e := 64, ext := false, fz := 0, pl := true, o := false }, { c := (Tapi_Source.enc x_1), e := 66, ext := false, fz := 0, pl := true, o := false }]) :=
  Does.of_viewM 2 400 (cs 4 [.op none .a, .br false]) [0, 1] (ps := [((decide ((↑k6 : Int) < (↑s_0.Rejects.length : Int))) = false)]) (by kernel_rfl) (by kernel_rfl) (ok1 (decide_eq_false c24))
def tollwayref52_known_L16_X (s_0 : Tapi_State) (x_1 : Tapi_Source) : (Unit ⊕ Unit) → AEx := fun q => match q with | Sum.inl o => .ret | Sum.inr (o) => (.exit 2)
def tollwayref52_known_L16_E (s_0 : Tapi_State) (x_1 : Tapi_Source) : (Unit ⊕ Unit) → St := fun q => match q with | Sum.inl o => S 55 [(4, .bool true)] [{ c := (Tapi_State.enc s_0), e := 64, ext := false, fz := 0, pl := true, o := false }, { c := (Tapi_Source.enc x_1), e := 66, ext := false, fz := 0, pl := true, o := false }] | Sum.inr (o) => S 55 [(2, .ptr 0 0), (3, .ptr 1 0)] [{ c := (Tapi_State.enc s_0), e := 64, ext := false, fz := 0, pl := true, o := false }, { c := (Tapi_Source.enc x_1), e := 66, ext := false, fz := 0, pl := true, o := false }]
theorem tollwayref52_known_L16_does (s_0 : Tapi_State) (x_1 : Tapi_Source) {s : Nat} {r : Unit ⊕ Unit} (h : lp (tollwayref52_known_L16_step s_0 x_1) s = some r) : Does Tryd.prog GT 2 (.loop (bodyAt Tryd.prog 25 [1, 1, 0, 1, 0, 0])) (tollwayref52_known_L16_H s_0 x_1 s) (tollwayref52_known_L16_X s_0 x_1 r) (tollwayref52_known_L16_E s_0 x_1 r) := by
  refine Does.lp (H := tollwayref52_known_L16_H s_0 x_1) (X := tollwayref52_known_L16_X s_0 x_1) (E := tollwayref52_known_L16_E s_0 x_1) (fun s s2 h => ?_) (fun s r h => ?_) h
  · revert h; revert s; intro k6 h
    unfold tollwayref52_known_L16_step at h
    try dsimp only at h
    rcases ite_some h with ⟨c24, h⟩ | ⟨c24, h⟩
    · obtain ⟨x25, h26, h⟩ := bind_some h
      obtain ⟨r27, h28, h⟩ := bind_some h
      rcases ite_some h with ⟨c29, h⟩ | ⟨c29, h⟩
      · simp at h
      · obtain ⟨h30, h⟩ := guard_some h
        simp only [Option.some.injEq, Sum.inl.injEq] at h
        subst h
        have hq := tollwayref52_known_L16_1 s_0 x_1 k6 c24 x25 h26 r27 h28 c29 h30
        first | exact hq | exact Eq.mp (by simp only [tollwayref52_known_L16_H, List.length_set] <;> rfl) hq
    · simp at h
  · revert h; revert s; intro k6 h
    unfold tollwayref52_known_L16_step at h
    try dsimp only at h
    rcases ite_some h with ⟨c24, h⟩ | ⟨c24, h⟩
    · obtain ⟨x25, h26, h⟩ := bind_some h
      obtain ⟨r27, h28, h⟩ := bind_some h
      rcases ite_some h with ⟨c29, h⟩ | ⟨c29, h⟩
      · simp only [Option.some.injEq, Sum.inr.injEq] at h
        subst h
        exact ⟨tollwayref52_known_L16_0 s_0 x_1 k6 c24 x25 h26 r27 h28 c29, by intro q; cases q⟩
      · obtain ⟨h30, h⟩ := guard_some h
        simp at h
    · simp only [Option.some.injEq, Sum.inr.injEq] at h
      subst h
      exact ⟨tollwayref52_known_L16_2 s_0 x_1 k6 c24, by intro q; cases q⟩
noncomputable def tollwayref52_known_L31_step (s_0 : Tapi_State) (x_1 : Tapi_Source) : Nat → Option (Nat ⊕ (Unit ⊕ Unit)) := fun k7 =>
  if (↑k7 : Int) < (↑s_0.Result.Rejects.length : Int) then
    (s_0.Result.Rejects[k7]?).bind fun x40 =>
    (tollwayref52_is x40.D x_1).bind fun r42 =>
    if r42 = true then
      some (Sum.inr (Sum.inl ()))
    else
      if InR .i64 ((↑k7 : Int) + 1) then
        some (Sum.inl (k7 + 1))
      else none
  else
    some (Sum.inr (Sum.inr (())))
def tollwayref52_known_L31_H (s_0 : Tapi_State) (x_1 : Tapi_Source) : Nat → St := fun (s : Nat) => S 55 [(2, .ptr 0 0), (3, .ptr 1 0), (7, .int .i64 (↑s : Int))] [{ c := (Tapi_State.enc s_0), e := 64, ext := false, fz := 0, pl := true, o := false }, { c := (Tapi_Source.enc x_1), e := 66, ext := false, fz := 0, pl := true, o := false }]
theorem tollwayref52_known_L31_0 (s_0 : Tapi_State) (x_1 : Tapi_Source) (k7 : Nat) (c39 : (↑k7 : Int) < (↑s_0.Result.Rejects.length : Int)) (x40 : Tapi_Reject) (h41 : s_0.Result.Rejects[k7]? = some x40) (r42 : Bool) (h43 : tollwayref52_is x40.D x_1 = some r42) (c44 : r42 = true) : Does Tryd.prog GT 2 (bodyAt Tryd.prog 25 [1, 1, 1, 0, 1, 0, 0]) (tollwayref52_known_L31_H s_0 x_1 k7) .ret (S 55 [(4, .bool true)] [{ c := (Tapi_State.enc s_0), e := 64, ext := false, fz := 0, pl := true, o := false }, { c := (Tapi_Source.enc x_1), e := 66, ext := false, fz := 0, pl := true, o := false }]) :=
  Does.of_viewM 2 400 (cs 5 ((.op none .a) :: (.br true) :: (cs 4 [.op none (.i k7), .op none .c, .op none (.v [.str x40.D.Device, .int .i64 x40.D.Seq, .int .i64 x40.D.Time, .str x40.D.Tag, .str x40.D.Plate, .int .i64 x40.D.Axles, .int .i64 x40.D.Score]), .op none .c, .ret none [.agg (Tapi_Detection.enc x40.D), .agg (Tapi_Source.enc x_1)] (.bool r42) [], .br true, .op none .c]))) [0, 1] (ps := [((decide ((↑k7 : Int) < (↑s_0.Result.Rejects.length : Int))) = true), ((↑k7 : Int) = ((k7 : Nat) : Int) ∧ k7 < s_0.Result.Rejects.length), ((fl Tapi_Reject.enc s_0.Result.Rejects) ≠ []), (sub (fl Tapi_Reject.enc s_0.Result.Rejects) (k7 * 8) 7 = [.str x40.D.Device, .int .i64 x40.D.Seq, .int .i64 x40.D.Time, .str x40.D.Tag, .str x40.D.Plate, .int .i64 x40.D.Axles, .int .i64 x40.D.Score]), ((.agg (Tapi_Detection.enc x40.D) : AV) = .agg (Tapi_Detection.enc x40.D)), ((.agg (Tapi_Source.enc x_1) : AV) = .agg (Tapi_Source.enc x_1)), (Ret Tryd.prog GT 27 [.agg (Tapi_Detection.enc x40.D), .agg (Tapi_Source.enc x_1)] (.bool r42) []), (r42 = true)]) (by kernel_rfl) (by kernel_rfl) ⟨(decide_eq_true c39), ⟨rfl, get_lt h41⟩, (fl_ne (f := Tapi_Reject.enc) (z := 7) (fun _ => rfl) h41), (fl_sub (f := Tapi_Reject.enc) (z := 8) (j := k7) (a := 0) (n := 7) (fun _ => rfl) h41 (by decide) rfl), rfl, rfl, (tollwayref52_is_ret x40.D x_1 r42 h43), ok1 c44⟩
theorem tollwayref52_known_L31_1 (s_0 : Tapi_State) (x_1 : Tapi_Source) (k7 : Nat) (c39 : (↑k7 : Int) < (↑s_0.Result.Rejects.length : Int)) (x40 : Tapi_Reject) (h41 : s_0.Result.Rejects[k7]? = some x40) (r42 : Bool) (h43 : tollwayref52_is x40.D x_1 = some r42) (c44 : ¬ (r42 = true)) (h45 : InR .i64 ((↑k7 : Int) + 1)) : Does Tryd.prog GT 2 (bodyAt Tryd.prog 25 [1, 1, 1, 0, 1, 0, 0]) (tollwayref52_known_L31_H s_0 x_1 k7) .normal (S 55 [(2, .ptr 0 0), (3, .ptr 1 0), (7, .int .i64 ((↑k7 : Int) + 1))] [{ c := (Tapi_State.enc s_0), e := 64, ext := false, fz := 0, pl := true, o := false }, { c := (Tapi_Source.enc x_1), e := 66, ext := false, fz := 0, pl := true, o := false }]) :=
  Does.of_viewM 2 400 (cs 5 ((.op none .a) :: (.br true) :: (cs 4 [.op none (.i k7), .op none .c, .op none (.v [.str x40.D.Device, .int .i64 x40.D.Seq, .int .i64 x40.D.Time, .str x40.D.Tag, .str x40.D.Plate, .int .i64 x40.D.Axles, .int .i64 x40.D.Score]), .op none .c, .ret none [.agg (Tapi_Detection.enc x40.D), .agg (Tapi_Source.enc x_1)] (.bool r42) [], .br false, .op none .c, .op none .w, .op none .c]))) [0, 1] (ps := [((decide ((↑k7 : Int) < (↑s_0.Result.Rejects.length : Int))) = true), ((↑k7 : Int) = ((k7 : Nat) : Int) ∧ k7 < s_0.Result.Rejects.length), ((fl Tapi_Reject.enc s_0.Result.Rejects) ≠ []), (sub (fl Tapi_Reject.enc s_0.Result.Rejects) (k7 * 8) 7 = [.str x40.D.Device, .int .i64 x40.D.Seq, .int .i64 x40.D.Time, .str x40.D.Tag, .str x40.D.Plate, .int .i64 x40.D.Axles, .int .i64 x40.D.Score]), ((.agg (Tapi_Detection.enc x40.D) : AV) = .agg (Tapi_Detection.enc x40.D)), ((.agg (Tapi_Source.enc x_1) : AV) = .agg (Tapi_Source.enc x_1)), (Ret Tryd.prog GT 27 [.agg (Tapi_Detection.enc x40.D), .agg (Tapi_Source.enc x_1)] (.bool r42) []), (r42 = false), (IntKind.min .i64 ≤ ((↑k7 : Int) + 1) ∧ ((↑k7 : Int) + 1) ≤ IntKind.max .i64)]) (by kernel_rfl) (by kernel_rfl) ⟨(decide_eq_true c39), ⟨rfl, get_lt h41⟩, (fl_ne (f := Tapi_Reject.enc) (z := 7) (fun _ => rfl) h41), (fl_sub (f := Tapi_Reject.enc) (z := 8) (j := k7) (a := 0) (n := 7) (fun _ => rfl) h41 (by decide) rfl), rfl, rfl, (tollwayref52_is_ret x40.D x_1 r42 h43), (eq_false_of_ne_true c44), ok1 h45⟩
theorem tollwayref52_known_L31_2 (s_0 : Tapi_State) (x_1 : Tapi_Source) (k7 : Nat) (c39 : ¬ ((↑k7 : Int) < (↑s_0.Result.Rejects.length : Int))) : Does Tryd.prog GT 2 (bodyAt Tryd.prog 25 [1, 1, 1, 0, 1, 0, 0]) (tollwayref52_known_L31_H s_0 x_1 k7) (.exit 4) (S 55 [] [{ c := (Tapi_State.enc s_0), e := 64, ext := false, fz := 0, pl := true, o := false }, { c := (Tapi_Source.enc x_1), e := 66, ext := false, fz := 0, pl := true, o := false }]) :=
  Does.of_viewM 2 400 (cs 5 [.op none .a, .br false]) [0, 1] (ps := [((decide ((↑k7 : Int) < (↑s_0.Result.Rejects.length : Int))) = false)]) (by kernel_rfl) (by kernel_rfl) (ok1 (decide_eq_false c39))
def tollwayref52_known_L31_X (s_0 : Tapi_State) (x_1 : Tapi_Source) : (Unit ⊕ Unit) → AEx := fun q => match q with | Sum.inl o => .ret | Sum.inr (o) => (.exit 4)
def tollwayref52_known_L31_E (s_0 : Tapi_State) (x_1 : Tapi_Source) : (Unit ⊕ Unit) → St := fun q => match q with | Sum.inl o => S 55 [(4, .bool true)] [{ c := (Tapi_State.enc s_0), e := 64, ext := false, fz := 0, pl := true, o := false }, { c := (Tapi_Source.enc x_1), e := 66, ext := false, fz := 0, pl := true, o := false }] | Sum.inr (o) => S 55 [] [{ c := (Tapi_State.enc s_0), e := 64, ext := false, fz := 0, pl := true, o := false }, { c := (Tapi_Source.enc x_1), e := 66, ext := false, fz := 0, pl := true, o := false }]
theorem tollwayref52_known_L31_does (s_0 : Tapi_State) (x_1 : Tapi_Source) {s : Nat} {r : Unit ⊕ Unit} (h : lp (tollwayref52_known_L31_step s_0 x_1) s = some r) : Does Tryd.prog GT 2 (.loop (bodyAt Tryd.prog 25 [1, 1, 1, 0, 1, 0, 0])) (tollwayref52_known_L31_H s_0 x_1 s) (tollwayref52_known_L31_X s_0 x_1 r) (tollwayref52_known_L31_E s_0 x_1 r) := by
  refine Does.lp (H := tollwayref52_known_L31_H s_0 x_1) (X := tollwayref52_known_L31_X s_0 x_1) (E := tollwayref52_known_L31_E s_0 x_1) (fun s s2 h => ?_) (fun s r h => ?_) h
  · revert h; revert s; intro k7 h
    unfold tollwayref52_known_L31_step at h
    try dsimp only at h
    rcases ite_some h with ⟨c39, h⟩ | ⟨c39, h⟩
    · obtain ⟨x40, h41, h⟩ := bind_some h
      obtain ⟨r42, h43, h⟩ := bind_some h
      rcases ite_some h with ⟨c44, h⟩ | ⟨c44, h⟩
      · simp at h
      · obtain ⟨h45, h⟩ := guard_some h
        simp only [Option.some.injEq, Sum.inl.injEq] at h
        subst h
        have hq := tollwayref52_known_L31_1 s_0 x_1 k7 c39 x40 h41 r42 h43 c44 h45
        first | exact hq | exact Eq.mp (by simp only [tollwayref52_known_L31_H, List.length_set] <;> rfl) hq
    · simp at h
  · revert h; revert s; intro k7 h
    unfold tollwayref52_known_L31_step at h
    try dsimp only at h
    rcases ite_some h with ⟨c39, h⟩ | ⟨c39, h⟩
    · obtain ⟨x40, h41, h⟩ := bind_some h
      obtain ⟨r42, h43, h⟩ := bind_some h
      rcases ite_some h with ⟨c44, h⟩ | ⟨c44, h⟩
      · simp only [Option.some.injEq, Sum.inr.injEq] at h
        subst h
        exact ⟨tollwayref52_known_L31_0 s_0 x_1 k7 c39 x40 h41 r42 h43 c44, by intro q; cases q⟩
      · obtain ⟨h45, h⟩ := guard_some h
        simp at h
    · simp only [Option.some.injEq, Sum.inr.injEq] at h
      subst h
      exact ⟨tollwayref52_known_L31_2 s_0 x_1 k7 c39, by intro q; cases q⟩
noncomputable def tollwayref52_known (s_0 : Tapi_State) (x_1 : Tapi_Source) : Option Bool :=
  (lp (tollwayref52_known_L1_step s_0 x_1) (0 : Nat)).bind fun qq => match qq with
  | Sum.inl o1 =>
    some true
  | Sum.inr (o1) =>
    (lp (tollwayref52_known_L16_step s_0 x_1) (0 : Nat)).bind fun qq => match qq with
    | Sum.inl o16 =>
      some true
    | Sum.inr (o16) =>
      (lp (tollwayref52_known_L31_step s_0 x_1) (0 : Nat)).bind fun qq => match qq with
      | Sum.inl o31 =>
        some true
      | Sum.inr (o31) =>
        some false
theorem tollwayref52_known_0 (s_0 : Tapi_State) (x_1 : Tapi_Source) (o1 : Unit) (hl1 : lp (tollwayref52_known_L1_step s_0 x_1) (0 : Nat) = some (Sum.inl o1)) : Ret Tryd.prog GT 25 [.agg (Tapi_State.enc s_0), .agg (Tapi_Source.enc x_1)] (.bool true) [] :=
  Ret.of_view 400 (cs 4 [.fcut 2 .ret [(4, .bool true)] [{ c := (Tapi_State.enc s_0), e := 64, ext := false, fz := 0, pl := true, o := false }, { c := (Tapi_Source.enc x_1), e := 66, ext := false, fz := 0, pl := true, o := false }] [0, 1] [(2, .ptr 0 0), (3, .ptr 1 0), (5, .int .i64 (↑(0 : Nat) : Int))] [{ c := (Tapi_State.enc s_0), e := 64, ext := false, fz := 0, pl := true, o := false }, { c := (Tapi_Source.enc x_1), e := 66, ext := false, fz := 0, pl := true, o := false }]]) [] (ps := [((.ptr 0 0 : AV) = .ptr 0 0), ((.ptr 1 0 : AV) = .ptr 1 0), ((.int .i64 0 : AV) = .int .i64 (↑(0 : Nat) : Int)), (({ c := (Tapi_State.enc s_0), e := 64, ext := false, fz := 0, pl := true, o := false } : Blk) = renB [0, 1] { c := (Tapi_State.enc s_0), e := 64, ext := false, fz := 0, pl := true, o := false }), (({ c := (Tapi_Source.enc x_1), e := 66, ext := false, fz := 0, pl := true, o := false } : Blk) = renB [0, 1] { c := (Tapi_Source.enc x_1), e := 66, ext := false, fz := 0, pl := true, o := false }), (Does Tryd.prog GT 2 (.loop (bodyAt Tryd.prog 25 [1, 0, 1, 0, 0])) (S 55 [(2, .ptr 0 0), (3, .ptr 1 0), (5, .int .i64 (↑(0 : Nat) : Int))] [{ c := (Tapi_State.enc s_0), e := 64, ext := false, fz := 0, pl := true, o := false }, { c := (Tapi_Source.enc x_1), e := 66, ext := false, fz := 0, pl := true, o := false }]) .ret (S 55 [(4, .bool true)] [{ c := (Tapi_State.enc s_0), e := 64, ext := false, fz := 0, pl := true, o := false }, { c := (Tapi_Source.enc x_1), e := 66, ext := false, fz := 0, pl := true, o := false }]))]) (by kernel_rfl) (by kernel_rfl) ⟨rfl, rfl, rfl, rfl, rfl, ok1 (tollwayref52_known_L1_does s_0 x_1 hl1)⟩
theorem tollwayref52_known_1 (s_0 : Tapi_State) (x_1 : Tapi_Source) (o1 : Unit) (hl1 : lp (tollwayref52_known_L1_step s_0 x_1) (0 : Nat) = some (Sum.inr (o1))) (o16 : Unit) (hl16 : lp (tollwayref52_known_L16_step s_0 x_1) (0 : Nat) = some (Sum.inl o16)) : Ret Tryd.prog GT 25 [.agg (Tapi_State.enc s_0), .agg (Tapi_Source.enc x_1)] (.bool true) [] :=
  Ret.of_view 400 (cs 4 [.fcut 2 (.exit 0) [(2, .ptr 0 0), (3, .ptr 1 0)] [{ c := (Tapi_State.enc s_0), e := 64, ext := false, fz := 0, pl := true, o := false }, { c := (Tapi_Source.enc x_1), e := 66, ext := false, fz := 0, pl := true, o := false }] [0, 1] [(2, .ptr 0 0), (3, .ptr 1 0), (5, .int .i64 (↑(0 : Nat) : Int))] [{ c := (Tapi_State.enc s_0), e := 64, ext := false, fz := 0, pl := true, o := false }, { c := (Tapi_Source.enc x_1), e := 66, ext := false, fz := 0, pl := true, o := false }], .op none .c, .fcut 2 .ret [(4, .bool true)] [{ c := (Tapi_State.enc s_0), e := 64, ext := false, fz := 0, pl := true, o := false }, { c := (Tapi_Source.enc x_1), e := 66, ext := false, fz := 0, pl := true, o := false }] [0, 1] [(2, .ptr 0 0), (3, .ptr 1 0), (6, .int .i64 (↑(0 : Nat) : Int))] [{ c := (Tapi_State.enc s_0), e := 64, ext := false, fz := 0, pl := true, o := false }, { c := (Tapi_Source.enc x_1), e := 66, ext := false, fz := 0, pl := true, o := false }]]) [] (ps := [((.ptr 0 0 : AV) = .ptr 0 0), ((.ptr 1 0 : AV) = .ptr 1 0), ((.int .i64 0 : AV) = .int .i64 (↑(0 : Nat) : Int)), (({ c := (Tapi_State.enc s_0), e := 64, ext := false, fz := 0, pl := true, o := false } : Blk) = renB [0, 1] { c := (Tapi_State.enc s_0), e := 64, ext := false, fz := 0, pl := true, o := false }), (({ c := (Tapi_Source.enc x_1), e := 66, ext := false, fz := 0, pl := true, o := false } : Blk) = renB [0, 1] { c := (Tapi_Source.enc x_1), e := 66, ext := false, fz := 0, pl := true, o := false }), (Does Tryd.prog GT 2 (.loop (bodyAt Tryd.prog 25 [1, 0, 1, 0, 0])) (S 55 [(2, .ptr 0 0), (3, .ptr 1 0), (5, .int .i64 (↑(0 : Nat) : Int))] [{ c := (Tapi_State.enc s_0), e := 64, ext := false, fz := 0, pl := true, o := false }, { c := (Tapi_Source.enc x_1), e := 66, ext := false, fz := 0, pl := true, o := false }]) (.exit 0) (S 55 [(2, .ptr 0 0), (3, .ptr 1 0)] [{ c := (Tapi_State.enc s_0), e := 64, ext := false, fz := 0, pl := true, o := false }, { c := (Tapi_Source.enc x_1), e := 66, ext := false, fz := 0, pl := true, o := false }])), ((.ptr 0 0 : AV) = .ptr 0 0), ((.ptr 1 0 : AV) = .ptr 1 0), ((.int .i64 0 : AV) = .int .i64 (↑(0 : Nat) : Int)), (({ c := (Tapi_State.enc s_0), e := 64, ext := false, fz := 0, pl := true, o := false } : Blk) = renB [0, 1] { c := (Tapi_State.enc s_0), e := 64, ext := false, fz := 0, pl := true, o := false }), (({ c := (Tapi_Source.enc x_1), e := 66, ext := false, fz := 0, pl := true, o := false } : Blk) = renB [0, 1] { c := (Tapi_Source.enc x_1), e := 66, ext := false, fz := 0, pl := true, o := false }), (Does Tryd.prog GT 2 (.loop (bodyAt Tryd.prog 25 [1, 1, 0, 1, 0, 0])) (S 55 [(2, .ptr 0 0), (3, .ptr 1 0), (6, .int .i64 (↑(0 : Nat) : Int))] [{ c := (Tapi_State.enc s_0), e := 64, ext := false, fz := 0, pl := true, o := false }, { c := (Tapi_Source.enc x_1), e := 66, ext := false, fz := 0, pl := true, o := false }]) .ret (S 55 [(4, .bool true)] [{ c := (Tapi_State.enc s_0), e := 64, ext := false, fz := 0, pl := true, o := false }, { c := (Tapi_Source.enc x_1), e := 66, ext := false, fz := 0, pl := true, o := false }]))]) (by kernel_rfl) (by kernel_rfl) ⟨rfl, rfl, rfl, rfl, rfl, (tollwayref52_known_L1_does s_0 x_1 hl1), rfl, rfl, rfl, rfl, rfl, ok1 (tollwayref52_known_L16_does s_0 x_1 hl16)⟩
theorem tollwayref52_known_2 (s_0 : Tapi_State) (x_1 : Tapi_Source) (o1 : Unit) (hl1 : lp (tollwayref52_known_L1_step s_0 x_1) (0 : Nat) = some (Sum.inr (o1))) (o16 : Unit) (hl16 : lp (tollwayref52_known_L16_step s_0 x_1) (0 : Nat) = some (Sum.inr (o16))) (o31 : Unit) (hl31 : lp (tollwayref52_known_L31_step s_0 x_1) (0 : Nat) = some (Sum.inl o31)) : Ret Tryd.prog GT 25 [.agg (Tapi_State.enc s_0), .agg (Tapi_Source.enc x_1)] (.bool true) [] :=
  Ret.of_view 400 (cs 4 [.fcut 2 (.exit 0) [(2, .ptr 0 0), (3, .ptr 1 0)] [{ c := (Tapi_State.enc s_0), e := 64, ext := false, fz := 0, pl := true, o := false }, { c := (Tapi_Source.enc x_1), e := 66, ext := false, fz := 0, pl := true, o := false }] [0, 1] [(2, .ptr 0 0), (3, .ptr 1 0), (5, .int .i64 (↑(0 : Nat) : Int))] [{ c := (Tapi_State.enc s_0), e := 64, ext := false, fz := 0, pl := true, o := false }, { c := (Tapi_Source.enc x_1), e := 66, ext := false, fz := 0, pl := true, o := false }], .op none .c, .fcut 2 (.exit 2) [(2, .ptr 0 0), (3, .ptr 1 0)] [{ c := (Tapi_State.enc s_0), e := 64, ext := false, fz := 0, pl := true, o := false }, { c := (Tapi_Source.enc x_1), e := 66, ext := false, fz := 0, pl := true, o := false }] [0, 1] [(2, .ptr 0 0), (3, .ptr 1 0), (6, .int .i64 (↑(0 : Nat) : Int))] [{ c := (Tapi_State.enc s_0), e := 64, ext := false, fz := 0, pl := true, o := false }, { c := (Tapi_Source.enc x_1), e := 66, ext := false, fz := 0, pl := true, o := false }], .op none .c, .fcut 2 .ret [(4, .bool true)] [{ c := (Tapi_State.enc s_0), e := 64, ext := false, fz := 0, pl := true, o := false }, { c := (Tapi_Source.enc x_1), e := 66, ext := false, fz := 0, pl := true, o := false }] [0, 1] [(2, .ptr 0 0), (3, .ptr 1 0), (7, .int .i64 (↑(0 : Nat) : Int))] [{ c := (Tapi_State.enc s_0), e := 64, ext := false, fz := 0, pl := true, o := false }, { c := (Tapi_Source.enc x_1), e := 66, ext := false, fz := 0, pl := true, o := false }]]) [] (ps := [((.ptr 0 0 : AV) = .ptr 0 0), ((.ptr 1 0 : AV) = .ptr 1 0), ((.int .i64 0 : AV) = .int .i64 (↑(0 : Nat) : Int)), (({ c := (Tapi_State.enc s_0), e := 64, ext := false, fz := 0, pl := true, o := false } : Blk) = renB [0, 1] { c := (Tapi_State.enc s_0), e := 64, ext := false, fz := 0, pl := true, o := false }), (({ c := (Tapi_Source.enc x_1), e := 66, ext := false, fz := 0, pl := true, o := false } : Blk) = renB [0, 1] { c := (Tapi_Source.enc x_1), e := 66, ext := false, fz := 0, pl := true, o := false }), (Does Tryd.prog GT 2 (.loop (bodyAt Tryd.prog 25 [1, 0, 1, 0, 0])) (S 55 [(2, .ptr 0 0), (3, .ptr 1 0), (5, .int .i64 (↑(0 : Nat) : Int))] [{ c := (Tapi_State.enc s_0), e := 64, ext := false, fz := 0, pl := true, o := false }, { c := (Tapi_Source.enc x_1), e := 66, ext := false, fz := 0, pl := true, o := false }]) (.exit 0) (S 55 [(2, .ptr 0 0), (3, .ptr 1 0)] [{ c := (Tapi_State.enc s_0), e := 64, ext := false, fz := 0, pl := true, o := false }, { c := (Tapi_Source.enc x_1), e := 66, ext := false, fz := 0, pl := true, o := false }])), ((.ptr 0 0 : AV) = .ptr 0 0), ((.ptr 1 0 : AV) = .ptr 1 0), ((.int .i64 0 : AV) = .int .i64 (↑(0 : Nat) : Int)), (({ c := (Tapi_State.enc s_0), e := 64, ext := false, fz := 0, pl := true, o := false } : Blk) = renB [0, 1] { c := (Tapi_State.enc s_0), e := 64, ext := false, fz := 0, pl := true, o := false }), (({ c := (Tapi_Source.enc x_1), e := 66, ext := false, fz := 0, pl := true, o := false } : Blk) = renB [0, 1] { c := (Tapi_Source.enc x_1), e := 66, ext := false, fz := 0, pl := true, o := false }), (Does Tryd.prog GT 2 (.loop (bodyAt Tryd.prog 25 [1, 1, 0, 1, 0, 0])) (S 55 [(2, .ptr 0 0), (3, .ptr 1 0), (6, .int .i64 (↑(0 : Nat) : Int))] [{ c := (Tapi_State.enc s_0), e := 64, ext := false, fz := 0, pl := true, o := false }, { c := (Tapi_Source.enc x_1), e := 66, ext := false, fz := 0, pl := true, o := false }]) (.exit 2) (S 55 [(2, .ptr 0 0), (3, .ptr 1 0)] [{ c := (Tapi_State.enc s_0), e := 64, ext := false, fz := 0, pl := true, o := false }, { c := (Tapi_Source.enc x_1), e := 66, ext := false, fz := 0, pl := true, o := false }])), ((.ptr 0 0 : AV) = .ptr 0 0), ((.ptr 1 0 : AV) = .ptr 1 0), ((.int .i64 0 : AV) = .int .i64 (↑(0 : Nat) : Int)), (({ c := (Tapi_State.enc s_0), e := 64, ext := false, fz := 0, pl := true, o := false } : Blk) = renB [0, 1] { c := (Tapi_State.enc s_0), e := 64, ext := false, fz := 0, pl := true, o := false }), (({ c := (Tapi_Source.enc x_1), e := 66, ext := false, fz := 0, pl := true, o := false } : Blk) = renB [0, 1] { c := (Tapi_Source.enc x_1), e := 66, ext := false, fz := 0, pl := true, o := false }), (Does Tryd.prog GT 2 (.loop (bodyAt Tryd.prog 25 [1, 1, 1, 0, 1, 0, 0])) (S 55 [(2, .ptr 0 0), (3, .ptr 1 0), (7, .int .i64 (↑(0 : Nat) : Int))] [{ c := (Tapi_State.enc s_0), e := 64, ext := false, fz := 0, pl := true, o := false }, { c := (Tapi_Source.enc x_1), e := 66, ext := false, fz := 0, pl := true, o := false }]) .ret (S 55 [(4, .bool true)] [{ c := (Tapi_State.enc s_0), e := 64, ext := false, fz := 0, pl := true, o := false }, { c := (Tapi_Source.enc x_1), e := 66, ext := false, fz := 0, pl := true, o := false }]))]) (by kernel_rfl) (by kernel_rfl) ⟨rfl, rfl, rfl, rfl, rfl, (tollwayref52_known_L1_does s_0 x_1 hl1), rfl, rfl, rfl, rfl, rfl, (tollwayref52_known_L16_does s_0 x_1 hl16), rfl, rfl, rfl, rfl, rfl, ok1 (tollwayref52_known_L31_does s_0 x_1 hl31)⟩
theorem tollwayref52_known_3 (s_0 : Tapi_State) (x_1 : Tapi_Source) (o1 : Unit) (hl1 : lp (tollwayref52_known_L1_step s_0 x_1) (0 : Nat) = some (Sum.inr (o1))) (o16 : Unit) (hl16 : lp (tollwayref52_known_L16_step s_0 x_1) (0 : Nat) = some (Sum.inr (o16))) (o31 : Unit) (hl31 : lp (tollwayref52_known_L31_step s_0 x_1) (0 : Nat) = some (Sum.inr (o31))) : Ret Tryd.prog GT 25 [.agg (Tapi_State.enc s_0), .agg (Tapi_Source.enc x_1)] (.bool false) [] :=
  Ret.of_view 400 (cs 4 [.fcut 2 (.exit 0) [(2, .ptr 0 0), (3, .ptr 1 0)] [{ c := (Tapi_State.enc s_0), e := 64, ext := false, fz := 0, pl := true, o := false }, { c := (Tapi_Source.enc x_1), e := 66, ext := false, fz := 0, pl := true, o := false }] [0, 1] [(2, .ptr 0 0), (3, .ptr 1 0), (5, .int .i64 (↑(0 : Nat) : Int))] [{ c := (Tapi_State.enc s_0), e := 64, ext := false, fz := 0, pl := true, o := false }, { c := (Tapi_Source.enc x_1), e := 66, ext := false, fz := 0, pl := true, o := false }], .op none .c, .fcut 2 (.exit 2) [(2, .ptr 0 0), (3, .ptr 1 0)] [{ c := (Tapi_State.enc s_0), e := 64, ext := false, fz := 0, pl := true, o := false }, { c := (Tapi_Source.enc x_1), e := 66, ext := false, fz := 0, pl := true, o := false }] [0, 1] [(2, .ptr 0 0), (3, .ptr 1 0), (6, .int .i64 (↑(0 : Nat) : Int))] [{ c := (Tapi_State.enc s_0), e := 64, ext := false, fz := 0, pl := true, o := false }, { c := (Tapi_Source.enc x_1), e := 66, ext := false, fz := 0, pl := true, o := false }], .op none .c, .fcut 2 (.exit 4) [] [{ c := (Tapi_State.enc s_0), e := 64, ext := false, fz := 0, pl := true, o := false }, { c := (Tapi_Source.enc x_1), e := 66, ext := false, fz := 0, pl := true, o := false }] [0, 1] [(2, .ptr 0 0), (3, .ptr 1 0), (7, .int .i64 (↑(0 : Nat) : Int))] [{ c := (Tapi_State.enc s_0), e := 64, ext := false, fz := 0, pl := true, o := false }, { c := (Tapi_Source.enc x_1), e := 66, ext := false, fz := 0, pl := true, o := false }], .op none .c]) [] (ps := [((.ptr 0 0 : AV) = .ptr 0 0), ((.ptr 1 0 : AV) = .ptr 1 0), ((.int .i64 0 : AV) = .int .i64 (↑(0 : Nat) : Int)), (({ c := (Tapi_State.enc s_0), e := 64, ext := false, fz := 0, pl := true, o := false } : Blk) = renB [0, 1] { c := (Tapi_State.enc s_0), e := 64, ext := false, fz := 0, pl := true, o := false }), (({ c := (Tapi_Source.enc x_1), e := 66, ext := false, fz := 0, pl := true, o := false } : Blk) = renB [0, 1] { c := (Tapi_Source.enc x_1), e := 66, ext := false, fz := 0, pl := true, o := false }), (Does Tryd.prog GT 2 (.loop (bodyAt Tryd.prog 25 [1, 0, 1, 0, 0])) (S 55 [(2, .ptr 0 0), (3, .ptr 1 0), (5, .int .i64 (↑(0 : Nat) : Int))] [{ c := (Tapi_State.enc s_0), e := 64, ext := false, fz := 0, pl := true, o := false }, { c := (Tapi_Source.enc x_1), e := 66, ext := false, fz := 0, pl := true, o := false }]) (.exit 0) (S 55 [(2, .ptr 0 0), (3, .ptr 1 0)] [{ c := (Tapi_State.enc s_0), e := 64, ext := false, fz := 0, pl := true, o := false }, { c := (Tapi_Source.enc x_1), e := 66, ext := false, fz := 0, pl := true, o := false }])), ((.ptr 0 0 : AV) = .ptr 0 0), ((.ptr 1 0 : AV) = .ptr 1 0), ((.int .i64 0 : AV) = .int .i64 (↑(0 : Nat) : Int)), (({ c := (Tapi_State.enc s_0), e := 64, ext := false, fz := 0, pl := true, o := false } : Blk) = renB [0, 1] { c := (Tapi_State.enc s_0), e := 64, ext := false, fz := 0, pl := true, o := false }), (({ c := (Tapi_Source.enc x_1), e := 66, ext := false, fz := 0, pl := true, o := false } : Blk) = renB [0, 1] { c := (Tapi_Source.enc x_1), e := 66, ext := false, fz := 0, pl := true, o := false }), (Does Tryd.prog GT 2 (.loop (bodyAt Tryd.prog 25 [1, 1, 0, 1, 0, 0])) (S 55 [(2, .ptr 0 0), (3, .ptr 1 0), (6, .int .i64 (↑(0 : Nat) : Int))] [{ c := (Tapi_State.enc s_0), e := 64, ext := false, fz := 0, pl := true, o := false }, { c := (Tapi_Source.enc x_1), e := 66, ext := false, fz := 0, pl := true, o := false }]) (.exit 2) (S 55 [(2, .ptr 0 0), (3, .ptr 1 0)] [{ c := (Tapi_State.enc s_0), e := 64, ext := false, fz := 0, pl := true, o := false }, { c := (Tapi_Source.enc x_1), e := 66, ext := false, fz := 0, pl := true, o := false }])), ((.ptr 0 0 : AV) = .ptr 0 0), ((.ptr 1 0 : AV) = .ptr 1 0), ((.int .i64 0 : AV) = .int .i64 (↑(0 : Nat) : Int)), (({ c := (Tapi_State.enc s_0), e := 64, ext := false, fz := 0, pl := true, o := false } : Blk) = renB [0, 1] { c := (Tapi_State.enc s_0), e := 64, ext := false, fz := 0, pl := true, o := false }), (({ c := (Tapi_Source.enc x_1), e := 66, ext := false, fz := 0, pl := true, o := false } : Blk) = renB [0, 1] { c := (Tapi_Source.enc x_1), e := 66, ext := false, fz := 0, pl := true, o := false }), (Does Tryd.prog GT 2 (.loop (bodyAt Tryd.prog 25 [1, 1, 1, 0, 1, 0, 0])) (S 55 [(2, .ptr 0 0), (3, .ptr 1 0), (7, .int .i64 (↑(0 : Nat) : Int))] [{ c := (Tapi_State.enc s_0), e := 64, ext := false, fz := 0, pl := true, o := false }, { c := (Tapi_Source.enc x_1), e := 66, ext := false, fz := 0, pl := true, o := false }]) (.exit 4) (S 55 [] [{ c := (Tapi_State.enc s_0), e := 64, ext := false, fz := 0, pl := true, o := false }, { c := (Tapi_Source.enc x_1), e := 66, ext := false, fz := 0, pl := true, o := false }]))]) (by kernel_rfl) (by kernel_rfl) ⟨rfl, rfl, rfl, rfl, rfl, (tollwayref52_known_L1_does s_0 x_1 hl1), rfl, rfl, rfl, rfl, rfl, (tollwayref52_known_L16_does s_0 x_1 hl16), rfl, rfl, rfl, rfl, rfl, ok1 (tollwayref52_known_L31_does s_0 x_1 hl31)⟩
theorem tollwayref52_known_ret (s_0 : Tapi_State) (x_1 : Tapi_Source) (r : Bool) (h : tollwayref52_known s_0 x_1 = some r) : Ret Tryd.prog GT 25 [.agg (Tapi_State.enc s_0), .agg (Tapi_Source.enc x_1)] (.bool r) [] := by
  unfold tollwayref52_known at h
  obtain ⟨qq, hl1, h⟩ := bind_some h
  rcases qq with o1 | o1
  · dsimp only at h
    simp only [Option.some.injEq] at h
    subst h
    exact tollwayref52_known_0 s_0 x_1 o1 hl1
  · dsimp only at h
    obtain ⟨qq, hl16, h⟩ := bind_some h
    rcases qq with o16 | o16
    · dsimp only at h
      simp only [Option.some.injEq] at h
      subst h
      exact tollwayref52_known_1 s_0 x_1 o1 hl1 o16 hl16
    · dsimp only at h
      obtain ⟨qq, hl31, h⟩ := bind_some h
      rcases qq with o31 | o31
      · dsimp only at h
        simp only [Option.some.injEq] at h
        subst h
        exact tollwayref52_known_2 s_0 x_1 o1 hl1 o16 hl16 o31 hl31
      · dsimp only at h
        simp only [Option.some.injEq] at h
        subst h
        exact tollwayref52_known_3 s_0 x_1 o1 hl1 o16 hl16 o31 hl31
noncomputable def tollwayref52_charge_L1_step (l_0 : (List Tapi_Charge)) (key_1 : (List UInt8)) : Nat → Option (Nat ⊕ (Int ⊕ Unit)) := fun k5 =>
  if (↑k5 : Int) < (↑l_0.length : Int) then
    (l_0[k5]?).bind fun x8 =>
    if x8.Key = key_1 then
      some (Sum.inr (Sum.inl (↑k5 : Int)))
    else
      if InR .i64 ((↑k5 : Int) + 1) then
        some (Sum.inl (k5 + 1))
      else none
  else
    some (Sum.inr (Sum.inr (())))
def tollwayref52_charge_L1_H (l_0 : (List Tapi_Charge)) (key_1 : (List UInt8)) : Nat → St := fun (s : Nat) => S 20 [(0, .lst (fl Tapi_Charge.enc l_0) l_0.length), (1, .str key_1), (5, .int .i64 (↑s : Int))] []
theorem tollwayref52_charge_L1_0 (l_0 : (List Tapi_Charge)) (key_1 : (List UInt8)) (k5 : Nat) (c7 : (↑k5 : Int) < (↑l_0.length : Int)) (x8 : Tapi_Charge) (h9 : l_0[k5]? = some x8) (c10 : x8.Key = key_1) : Does Tryd.prog GT 0 (bodyAt Tryd.prog 40 [1, 0, 1, 0, 0]) (tollwayref52_charge_L1_H l_0 key_1 k5) .ret (S 20 [(4, .int .i64 (↑k5 : Int))] []) :=
  Does.of_viewM 0 400 (cs 3 ((.op none .a) :: (.br true) :: (cs 2 ((.op none (.i k5)) :: (.op none .c) :: (.op none (.v [.str x8.Key])) :: (.op none .c) :: (.op none .a) :: (.br true) :: (cs 2 []))))) [] (ps := [((decide ((↑k5 : Int) < (↑l_0.length : Int))) = true), ((↑k5 : Int) = ((k5 : Nat) : Int) ∧ k5 < l_0.length), ((fl Tapi_Charge.enc l_0) ≠ []), (sub (fl Tapi_Charge.enc l_0) (k5 * 7) 1 = [.str x8.Key]), ((x8.Key == key_1) = true)]) (by kernel_rfl) (by kernel_rfl) ⟨(decide_eq_true c7), ⟨rfl, get_lt h9⟩, (fl_ne (f := Tapi_Charge.enc) (z := 6) (fun _ => rfl) h9), (fl_sub (f := Tapi_Charge.enc) (z := 7) (j := k5) (a := 0) (n := 1) (fun _ => rfl) h9 (by decide) rfl), ok1 (beq_t c10)⟩
theorem tollwayref52_charge_L1_1 (l_0 : (List Tapi_Charge)) (key_1 : (List UInt8)) (k5 : Nat) (c7 : (↑k5 : Int) < (↑l_0.length : Int)) (x8 : Tapi_Charge) (h9 : l_0[k5]? = some x8) (c10 : ¬ (x8.Key = key_1)) (h11 : InR .i64 ((↑k5 : Int) + 1)) : Does Tryd.prog GT 0 (bodyAt Tryd.prog 40 [1, 0, 1, 0, 0]) (tollwayref52_charge_L1_H l_0 key_1 k5) .normal (S 20 [(0, .lst (fl Tapi_Charge.enc l_0) l_0.length), (1, .str key_1), (5, .int .i64 ((↑k5 : Int) + 1))] []) :=
  Does.of_viewM 0 400 (cs 3 ((.op none .a) :: (.br true) :: (cs 2 [.op none (.i k5), .op none .c, .op none (.v [.str x8.Key]), .op none .c, .op none .a, .br false, .op none .c, .op none .w, .op none .c]))) [] (ps := [((decide ((↑k5 : Int) < (↑l_0.length : Int))) = true), ((↑k5 : Int) = ((k5 : Nat) : Int) ∧ k5 < l_0.length), ((fl Tapi_Charge.enc l_0) ≠ []), (sub (fl Tapi_Charge.enc l_0) (k5 * 7) 1 = [.str x8.Key]), ((x8.Key == key_1) = false), (IntKind.min .i64 ≤ ((↑k5 : Int) + 1) ∧ ((↑k5 : Int) + 1) ≤ IntKind.max .i64)]) (by kernel_rfl) (by kernel_rfl) ⟨(decide_eq_true c7), ⟨rfl, get_lt h9⟩, (fl_ne (f := Tapi_Charge.enc) (z := 6) (fun _ => rfl) h9), (fl_sub (f := Tapi_Charge.enc) (z := 7) (j := k5) (a := 0) (n := 1) (fun _ => rfl) h9 (by decide) rfl), (beq_f c10), ok1 h11⟩
theorem tollwayref52_charge_L1_2 (l_0 : (List Tapi_Charge)) (key_1 : (List UInt8)) (k5 : Nat) (c7 : ¬ ((↑k5 : Int) < (↑l_0.length : Int))) : Does Tryd.prog GT 0 (bodyAt Tryd.prog 40 [1, 0, 1, 0, 0]) (tollwayref52_charge_L1_H l_0 key_1 k5) (.exit 0) (S 20 [] []) :=
  Does.of_viewM 0 400 (cs 3 [.op none .a, .br false]) [] (ps := [((decide ((↑k5 : Int) < (↑l_0.length : Int))) = false)]) (by kernel_rfl) (by kernel_rfl) (ok1 (decide_eq_false c7))
def tollwayref52_charge_L1_X (l_0 : (List Tapi_Charge)) (key_1 : (List UInt8)) : (Int ⊕ Unit) → AEx := fun q => match q with | Sum.inl o => .ret | Sum.inr (o) => (.exit 0)
def tollwayref52_charge_L1_E (l_0 : (List Tapi_Charge)) (key_1 : (List UInt8)) : (Int ⊕ Unit) → St := fun q => match q with | Sum.inl o => S 20 [(4, .int .i64 o)] [] | Sum.inr (o) => S 20 [] []
theorem tollwayref52_charge_L1_does (l_0 : (List Tapi_Charge)) (key_1 : (List UInt8)) {s : Nat} {r : Int ⊕ Unit} (h : lp (tollwayref52_charge_L1_step l_0 key_1) s = some r) : Does Tryd.prog GT 0 (.loop (bodyAt Tryd.prog 40 [1, 0, 1, 0, 0])) (tollwayref52_charge_L1_H l_0 key_1 s) (tollwayref52_charge_L1_X l_0 key_1 r) (tollwayref52_charge_L1_E l_0 key_1 r) := by
  refine Does.lp (H := tollwayref52_charge_L1_H l_0 key_1) (X := tollwayref52_charge_L1_X l_0 key_1) (E := tollwayref52_charge_L1_E l_0 key_1) (fun s s2 h => ?_) (fun s r h => ?_) h
  · revert h; revert s; intro k5 h
    unfold tollwayref52_charge_L1_step at h
    try dsimp only at h
    rcases ite_some h with ⟨c7, h⟩ | ⟨c7, h⟩
    · obtain ⟨x8, h9, h⟩ := bind_some h
      rcases ite_some h with ⟨c10, h⟩ | ⟨c10, h⟩
      · simp at h
      · obtain ⟨h11, h⟩ := guard_some h
        simp only [Option.some.injEq, Sum.inl.injEq] at h
        subst h
        have hq := tollwayref52_charge_L1_1 l_0 key_1 k5 c7 x8 h9 c10 h11
        first | exact hq | exact Eq.mp (by simp only [tollwayref52_charge_L1_H, List.length_set] <;> rfl) hq
    · simp at h
  · revert h; revert s; intro k5 h
    unfold tollwayref52_charge_L1_step at h
    try dsimp only at h
    rcases ite_some h with ⟨c7, h⟩ | ⟨c7, h⟩
    · obtain ⟨x8, h9, h⟩ := bind_some h
      rcases ite_some h with ⟨c10, h⟩ | ⟨c10, h⟩
      · simp only [Option.some.injEq, Sum.inr.injEq] at h
        subst h
        exact ⟨tollwayref52_charge_L1_0 l_0 key_1 k5 c7 x8 h9 c10, by intro q; cases q⟩
      · obtain ⟨h11, h⟩ := guard_some h
        simp at h
    · simp only [Option.some.injEq, Sum.inr.injEq] at h
      subst h
      exact ⟨tollwayref52_charge_L1_2 l_0 key_1 k5 c7, by intro q; cases q⟩
noncomputable def tollwayref52_charge (l_0 : (List Tapi_Charge)) (key_1 : (List UInt8)) : Option Int :=
  (lp (tollwayref52_charge_L1_step l_0 key_1) (0 : Nat)).bind fun qq => match qq with
  | Sum.inl o1 =>
    some o1
  | Sum.inr (o1) =>
    some (-1)
theorem tollwayref52_charge_0 (l_0 : (List Tapi_Charge)) (key_1 : (List UInt8)) (o1 : Int) (hl1 : lp (tollwayref52_charge_L1_step l_0 key_1) (0 : Nat) = some (Sum.inl o1)) : Ret Tryd.prog GT 40 [.lst (fl Tapi_Charge.enc l_0) l_0.length, .str key_1] (.int .i64 o1) [] :=
  Ret.of_view 400 (cs 2 [.fcut 0 .ret [(4, .int .i64 o1)] [] [] [(0, .lst (fl Tapi_Charge.enc l_0) l_0.length), (1, .str key_1), (5, .int .i64 (↑(0 : Nat) : Int))] []]) [] (ps := [((.lst (fl Tapi_Charge.enc l_0) l_0.length : AV) = .lst (fl Tapi_Charge.enc l_0) l_0.length), ((.str key_1 : AV) = .str key_1), ((.int .i64 0 : AV) = .int .i64 (↑(0 : Nat) : Int)), (Does Tryd.prog GT 0 (.loop (bodyAt Tryd.prog 40 [1, 0, 1, 0, 0])) (S 20 [(0, .lst (fl Tapi_Charge.enc l_0) l_0.length), (1, .str key_1), (5, .int .i64 (↑(0 : Nat) : Int))] []) .ret (S 20 [(4, .int .i64 o1)] []))]) (by kernel_rfl) (by kernel_rfl) ⟨rfl, rfl, rfl, ok1 (tollwayref52_charge_L1_does l_0 key_1 hl1)⟩
theorem tollwayref52_charge_1 (l_0 : (List Tapi_Charge)) (key_1 : (List UInt8)) (o1 : Unit) (hl1 : lp (tollwayref52_charge_L1_step l_0 key_1) (0 : Nat) = some (Sum.inr (o1))) : Ret Tryd.prog GT 40 [.lst (fl Tapi_Charge.enc l_0) l_0.length, .str key_1] (.int .i64 (-1)) [] :=
  Ret.of_view 400 (cs 2 [.fcut 0 (.exit 0) [] [] [] [(0, .lst (fl Tapi_Charge.enc l_0) l_0.length), (1, .str key_1), (5, .int .i64 (↑(0 : Nat) : Int))] [], .op none .c]) [] (ps := [((.lst (fl Tapi_Charge.enc l_0) l_0.length : AV) = .lst (fl Tapi_Charge.enc l_0) l_0.length), ((.str key_1 : AV) = .str key_1), ((.int .i64 0 : AV) = .int .i64 (↑(0 : Nat) : Int)), (Does Tryd.prog GT 0 (.loop (bodyAt Tryd.prog 40 [1, 0, 1, 0, 0])) (S 20 [(0, .lst (fl Tapi_Charge.enc l_0) l_0.length), (1, .str key_1), (5, .int .i64 (↑(0 : Nat) : Int))] []) (.exit 0) (S 20 [] []))]) (by kernel_rfl) (by kernel_rfl) ⟨rfl, rfl, rfl, ok1 (tollwayref52_charge_L1_does l_0 key_1 hl1)⟩
theorem tollwayref52_charge_ret (l_0 : (List Tapi_Charge)) (key_1 : (List UInt8)) (r : Int) (h : tollwayref52_charge l_0 key_1 = some r) : Ret Tryd.prog GT 40 [.lst (fl Tapi_Charge.enc l_0) l_0.length, .str key_1] (.int .i64 r) [] := by
  unfold tollwayref52_charge at h
  obtain ⟨qq, hl1, h⟩ := bind_some h
  rcases qq with o1 | o1
  · dsimp only at h
    simp only [Option.some.injEq] at h
    subst h
    exact tollwayref52_charge_0 l_0 key_1 o1 hl1
  · dsimp only at h
    simp only [Option.some.injEq] at h
    subst h
    exact tollwayref52_charge_1 l_0 key_1 o1 hl1
noncomputable def tollwayref52_passage_L1_step (l_0 : (List Tapi_Passage)) (id_1 : (List UInt8)) : Nat → Option (Nat ⊕ (Int ⊕ Unit)) := fun k5 =>
  if (↑k5 : Int) < (↑l_0.length : Int) then
    (l_0[k5]?).bind fun x8 =>
    if x8.ID = id_1 then
      some (Sum.inr (Sum.inl (↑k5 : Int)))
    else
      if InR .i64 ((↑k5 : Int) + 1) then
        some (Sum.inl (k5 + 1))
      else none
  else
    some (Sum.inr (Sum.inr (())))
def tollwayref52_passage_L1_H (l_0 : (List Tapi_Passage)) (id_1 : (List UInt8)) : Nat → St := fun (s : Nat) => S 20 [(0, .lst (fl Tapi_Passage.enc l_0) l_0.length), (1, .str id_1), (5, .int .i64 (↑s : Int))] []
theorem tollwayref52_passage_L1_0 (l_0 : (List Tapi_Passage)) (id_1 : (List UInt8)) (k5 : Nat) (c7 : (↑k5 : Int) < (↑l_0.length : Int)) (x8 : Tapi_Passage) (h9 : l_0[k5]? = some x8) (c10 : x8.ID = id_1) : Does Tryd.prog GT 0 (bodyAt Tryd.prog 48 [1, 0, 1, 0, 0]) (tollwayref52_passage_L1_H l_0 id_1 k5) .ret (S 20 [(4, .int .i64 (↑k5 : Int))] []) :=
  Does.of_viewM 0 400 (cs 3 ((.op none .a) :: (.br true) :: (cs 2 ((.op none (.i k5)) :: (.op none .c) :: (.op none (.v [.str x8.ID])) :: (.op none .c) :: (.op none .a) :: (.br true) :: (cs 2 []))))) [] (ps := [((decide ((↑k5 : Int) < (↑l_0.length : Int))) = true), ((↑k5 : Int) = ((k5 : Nat) : Int) ∧ k5 < l_0.length), ((fl Tapi_Passage.enc l_0) ≠ []), (sub (fl Tapi_Passage.enc l_0) (k5 * 8) 1 = [.str x8.ID]), ((x8.ID == id_1) = true)]) (by kernel_rfl) (by kernel_rfl) ⟨(decide_eq_true c7), ⟨rfl, get_lt h9⟩, (fl_ne (f := Tapi_Passage.enc) (z := 7) (fun _ => rfl) h9), (fl_sub (f := Tapi_Passage.enc) (z := 8) (j := k5) (a := 0) (n := 1) (fun _ => rfl) h9 (by decide) rfl), ok1 (beq_t c10)⟩
theorem tollwayref52_passage_L1_1 (l_0 : (List Tapi_Passage)) (id_1 : (List UInt8)) (k5 : Nat) (c7 : (↑k5 : Int) < (↑l_0.length : Int)) (x8 : Tapi_Passage) (h9 : l_0[k5]? = some x8) (c10 : ¬ (x8.ID = id_1)) (h11 : InR .i64 ((↑k5 : Int) + 1)) : Does Tryd.prog GT 0 (bodyAt Tryd.prog 48 [1, 0, 1, 0, 0]) (tollwayref52_passage_L1_H l_0 id_1 k5) .normal (S 20 [(0, .lst (fl Tapi_Passage.enc l_0) l_0.length), (1, .str id_1), (5, .int .i64 ((↑k5 : Int) + 1))] []) :=
  Does.of_viewM 0 400 (cs 3 ((.op none .a) :: (.br true) :: (cs 2 [.op none (.i k5), .op none .c, .op none (.v [.str x8.ID]), .op none .c, .op none .a, .br false, .op none .c, .op none .w, .op none .c]))) [] (ps := [((decide ((↑k5 : Int) < (↑l_0.length : Int))) = true), ((↑k5 : Int) = ((k5 : Nat) : Int) ∧ k5 < l_0.length), ((fl Tapi_Passage.enc l_0) ≠ []), (sub (fl Tapi_Passage.enc l_0) (k5 * 8) 1 = [.str x8.ID]), ((x8.ID == id_1) = false), (IntKind.min .i64 ≤ ((↑k5 : Int) + 1) ∧ ((↑k5 : Int) + 1) ≤ IntKind.max .i64)]) (by kernel_rfl) (by kernel_rfl) ⟨(decide_eq_true c7), ⟨rfl, get_lt h9⟩, (fl_ne (f := Tapi_Passage.enc) (z := 7) (fun _ => rfl) h9), (fl_sub (f := Tapi_Passage.enc) (z := 8) (j := k5) (a := 0) (n := 1) (fun _ => rfl) h9 (by decide) rfl), (beq_f c10), ok1 h11⟩
theorem tollwayref52_passage_L1_2 (l_0 : (List Tapi_Passage)) (id_1 : (List UInt8)) (k5 : Nat) (c7 : ¬ ((↑k5 : Int) < (↑l_0.length : Int))) : Does Tryd.prog GT 0 (bodyAt Tryd.prog 48 [1, 0, 1, 0, 0]) (tollwayref52_passage_L1_H l_0 id_1 k5) (.exit 0) (S 20 [] []) :=
  Does.of_viewM 0 400 (cs 3 [.op none .a, .br false]) [] (ps := [((decide ((↑k5 : Int) < (↑l_0.length : Int))) = false)]) (by kernel_rfl) (by kernel_rfl) (ok1 (decide_eq_false c7))
def tollwayref52_passage_L1_X (l_0 : (List Tapi_Passage)) (id_1 : (List UInt8)) : (Int ⊕ Unit) → AEx := fun q => match q with | Sum.inl o => .ret | Sum.inr (o) => (.exit 0)
def tollwayref52_passage_L1_E (l_0 : (List Tapi_Passage)) (id_1 : (List UInt8)) : (Int ⊕ Unit) → St := fun q => match q with | Sum.inl o => S 20 [(4, .int .i64 o)] [] | Sum.inr (o) => S 20 [] []
theorem tollwayref52_passage_L1_does (l_0 : (List Tapi_Passage)) (id_1 : (List UInt8)) {s : Nat} {r : Int ⊕ Unit} (h : lp (tollwayref52_passage_L1_step l_0 id_1) s = some r) : Does Tryd.prog GT 0 (.loop (bodyAt Tryd.prog 48 [1, 0, 1, 0, 0])) (tollwayref52_passage_L1_H l_0 id_1 s) (tollwayref52_passage_L1_X l_0 id_1 r) (tollwayref52_passage_L1_E l_0 id_1 r) := by
  refine Does.lp (H := tollwayref52_passage_L1_H l_0 id_1) (X := tollwayref52_passage_L1_X l_0 id_1) (E := tollwayref52_passage_L1_E l_0 id_1) (fun s s2 h => ?_) (fun s r h => ?_) h
  · revert h; revert s; intro k5 h
    unfold tollwayref52_passage_L1_step at h
    try dsimp only at h
    rcases ite_some h with ⟨c7, h⟩ | ⟨c7, h⟩
    · obtain ⟨x8, h9, h⟩ := bind_some h
      rcases ite_some h with ⟨c10, h⟩ | ⟨c10, h⟩
      · simp at h
      · obtain ⟨h11, h⟩ := guard_some h
        simp only [Option.some.injEq, Sum.inl.injEq] at h
        subst h
        have hq := tollwayref52_passage_L1_1 l_0 id_1 k5 c7 x8 h9 c10 h11
        first | exact hq | exact Eq.mp (by simp only [tollwayref52_passage_L1_H, List.length_set] <;> rfl) hq
    · simp at h
  · revert h; revert s; intro k5 h
    unfold tollwayref52_passage_L1_step at h
    try dsimp only at h
    rcases ite_some h with ⟨c7, h⟩ | ⟨c7, h⟩
    · obtain ⟨x8, h9, h⟩ := bind_some h
      rcases ite_some h with ⟨c10, h⟩ | ⟨c10, h⟩
      · simp only [Option.some.injEq, Sum.inr.injEq] at h
        subst h
        exact ⟨tollwayref52_passage_L1_0 l_0 id_1 k5 c7 x8 h9 c10, by intro q; cases q⟩
      · obtain ⟨h11, h⟩ := guard_some h
        simp at h
    · simp only [Option.some.injEq, Sum.inr.injEq] at h
      subst h
      exact ⟨tollwayref52_passage_L1_2 l_0 id_1 k5 c7, by intro q; cases q⟩
noncomputable def tollwayref52_passage (l_0 : (List Tapi_Passage)) (id_1 : (List UInt8)) : Option Int :=
  (lp (tollwayref52_passage_L1_step l_0 id_1) (0 : Nat)).bind fun qq => match qq with
  | Sum.inl o1 =>
    some o1
  | Sum.inr (o1) =>
    some (-1)
theorem tollwayref52_passage_0 (l_0 : (List Tapi_Passage)) (id_1 : (List UInt8)) (o1 : Int) (hl1 : lp (tollwayref52_passage_L1_step l_0 id_1) (0 : Nat) = some (Sum.inl o1)) : Ret Tryd.prog GT 48 [.lst (fl Tapi_Passage.enc l_0) l_0.length, .str id_1] (.int .i64 o1) [] :=
  Ret.of_view 400 (cs 2 [.fcut 0 .ret [(4, .int .i64 o1)] [] [] [(0, .lst (fl Tapi_Passage.enc l_0) l_0.length), (1, .str id_1), (5, .int .i64 (↑(0 : Nat) : Int))] []]) [] (ps := [((.lst (fl Tapi_Passage.enc l_0) l_0.length : AV) = .lst (fl Tapi_Passage.enc l_0) l_0.length), ((.str id_1 : AV) = .str id_1), ((.int .i64 0 : AV) = .int .i64 (↑(0 : Nat) : Int)), (Does Tryd.prog GT 0 (.loop (bodyAt Tryd.prog 48 [1, 0, 1, 0, 0])) (S 20 [(0, .lst (fl Tapi_Passage.enc l_0) l_0.length), (1, .str id_1), (5, .int .i64 (↑(0 : Nat) : Int))] []) .ret (S 20 [(4, .int .i64 o1)] []))]) (by kernel_rfl) (by kernel_rfl) ⟨rfl, rfl, rfl, ok1 (tollwayref52_passage_L1_does l_0 id_1 hl1)⟩
theorem tollwayref52_passage_1 (l_0 : (List Tapi_Passage)) (id_1 : (List UInt8)) (o1 : Unit) (hl1 : lp (tollwayref52_passage_L1_step l_0 id_1) (0 : Nat) = some (Sum.inr (o1))) : Ret Tryd.prog GT 48 [.lst (fl Tapi_Passage.enc l_0) l_0.length, .str id_1] (.int .i64 (-1)) [] :=
  Ret.of_view 400 (cs 2 [.fcut 0 (.exit 0) [] [] [] [(0, .lst (fl Tapi_Passage.enc l_0) l_0.length), (1, .str id_1), (5, .int .i64 (↑(0 : Nat) : Int))] [], .op none .c]) [] (ps := [((.lst (fl Tapi_Passage.enc l_0) l_0.length : AV) = .lst (fl Tapi_Passage.enc l_0) l_0.length), ((.str id_1 : AV) = .str id_1), ((.int .i64 0 : AV) = .int .i64 (↑(0 : Nat) : Int)), (Does Tryd.prog GT 0 (.loop (bodyAt Tryd.prog 48 [1, 0, 1, 0, 0])) (S 20 [(0, .lst (fl Tapi_Passage.enc l_0) l_0.length), (1, .str id_1), (5, .int .i64 (↑(0 : Nat) : Int))] []) (.exit 0) (S 20 [] []))]) (by kernel_rfl) (by kernel_rfl) ⟨rfl, rfl, rfl, ok1 (tollwayref52_passage_L1_does l_0 id_1 hl1)⟩
theorem tollwayref52_passage_ret (l_0 : (List Tapi_Passage)) (id_1 : (List UInt8)) (r : Int) (h : tollwayref52_passage l_0 id_1 = some r) : Ret Tryd.prog GT 48 [.lst (fl Tapi_Passage.enc l_0) l_0.length, .str id_1] (.int .i64 r) [] := by
  unfold tollwayref52_passage at h
  obtain ⟨qq, hl1, h⟩ := bind_some h
  rcases qq with o1 | o1
  · dsimp only at h
    simp only [Option.some.injEq] at h
    subst h
    exact tollwayref52_passage_0 l_0 id_1 o1 hl1
  · dsimp only at h
    simp only [Option.some.injEq] at h
    subst h
    exact tollwayref52_passage_1 l_0 id_1 o1 hl1
noncomputable def tollwayref21_Passages_L1_step (x_0 : Tapi_Trip) : (Nat × (List (List UInt8))) → Option ((Nat × (List (List UInt8))) ⊕ (List (List UInt8)))
  | (k4, b1) =>
    if (↑k4 : Int) < (↑x_0.Stops.length : Int) then
      (x_0.Stops[k4]?).bind fun x10 =>
      if x10.Passage = [] then
        if InR .i64 ((↑k4 : Int) + 1) then
          some (Sum.inl ((k4 + 1), b1))
        else none
      else
        if b1.length + 1 ≤ 4294967296 then
          if InR .i64 ((↑k4 : Int) + 1) then
            some (Sum.inl ((k4 + 1), (b1 ++ [x10.Passage])))
          else none
        else none
    else
      some (Sum.inr b1)
def tollwayref21_Passages_L1_H (x_0 : Tapi_Trip) : (Nat × (List (List UInt8))) → St := fun (s : (Nat × (List (List UInt8)))) => S 30 [(1, .ptr 0 0), (3, .vec 1 s.2.length 1), (4, .int .i64 (↑s.1 : Int))] [{ c := (Tapi_Trip.enc x_0), e := 90, ext := false, fz := 0, pl := true, o := false }, { c := (fl e_str s.2), e := 9, ext := true, fz := 0, pl := true, o := true }]
theorem tollwayref21_Passages_L1_0 (x_0 : Tapi_Trip) (k4 : Nat) (b1 : (List (List UInt8))) (c9 : (↑k4 : Int) < (↑x_0.Stops.length : Int)) (x10 : Tapi_Stop) (h11 : x_0.Stops[k4]? = some x10) (c12 : x10.Passage = []) (h13 : InR .i64 ((↑k4 : Int) + 1)) : Does Tryd.prog GT 1 (bodyAt Tryd.prog 70 [1, 1, 0, 1, 0, 0]) (tollwayref21_Passages_L1_H x_0 (k4, b1)) .normal (S 30 [(1, .ptr 0 0), (3, .vec 1 b1.length 1), (4, .int .i64 ((↑k4 : Int) + 1))] [{ c := (Tapi_Trip.enc x_0), e := 90, ext := false, fz := 0, pl := true, o := false }, { c := (fl e_str b1), e := 9, ext := true, fz := 0, pl := true, o := true }]) :=
  Does.of_viewM 1 400 (cs 4 ((.op none .a) :: (.br true) :: (cs 3 [.op none (.i k4), .op none .c, .op none (.v [.str x10.Passage]), .op none .a, .br false, .op none .c, .op none .w, .op none .c]))) [0, 1] (ps := [((decide ((↑k4 : Int) < (↑x_0.Stops.length : Int))) = true), ((↑k4 : Int) = ((k4 : Nat) : Int) ∧ k4 < x_0.Stops.length), ((fl Tapi_Stop.enc x_0.Stops) ≠ []), (sub (fl Tapi_Stop.enc x_0.Stops) ((k4 * 3) + 2) 1 = [.str x10.Passage]), ((!(x10.Passage == [])) = false), (IntKind.min .i64 ≤ ((↑k4 : Int) + 1) ∧ ((↑k4 : Int) + 1) ≤ IntKind.max .i64)]) (by kernel_rfl) (by kernel_rfl) ⟨(decide_eq_true c9), ⟨rfl, get_lt h11⟩, (fl_ne (f := Tapi_Stop.enc) (z := 2) (fun _ => rfl) h11), (fl_sub (f := Tapi_Stop.enc) (z := 3) (j := k4) (a := 2) (n := 1) (fun _ => rfl) h11 (by decide) rfl), (not_f (beq_t c12)), ok1 h13⟩
theorem tollwayref21_Passages_L1_1 (x_0 : Tapi_Trip) (k4 : Nat) (b1 : (List (List UInt8))) (c9 : (↑k4 : Int) < (↑x_0.Stops.length : Int)) (x10 : Tapi_Stop) (h11 : x_0.Stops[k4]? = some x10) (c12 : ¬ (x10.Passage = [])) (h14 : b1.length + 1 ≤ 4294967296) (h15 : InR .i64 ((↑k4 : Int) + 1)) : Does Tryd.prog GT 1 (bodyAt Tryd.prog 70 [1, 1, 0, 1, 0, 0]) (tollwayref21_Passages_L1_H x_0 (k4, b1)) .normal (S 30 [(1, .ptr 0 0), (3, .vec 1 ((b1 ++ [x10.Passage]).length) 1), (4, .int .i64 ((↑k4 : Int) + 1))] [{ c := (Tapi_Trip.enc x_0), e := 90, ext := false, fz := 0, pl := true, o := false }, { c := (fl e_str (b1 ++ [x10.Passage])), e := 9, ext := true, fz := 0, pl := true, o := true }]) :=
  Does.of_viewM 1 400 (cs 4 ((.op none .a) :: (.br true) :: (cs 3 ((.op none (.i k4)) :: (.op none .c) :: (.op none (.v [.str x10.Passage])) :: (.op none .a) :: (.br true) :: (cs 4 ((.op none (.i k4)) :: (.op none .c) :: (.op none (.v [.str x10.Passage])) :: (.op none .c) :: (.op none (.ap 4)) :: (.tr (.eqc 3 (fl e_str (b1 ++ [x10.Passage])))) :: (.tr (.eqt (.t 28) (.vec 3 ((b1 ++ [x10.Passage]).length) 1))) :: (cs 2 [.op none .w, .op none .c]))))))) [0, 3] (ps := [((decide ((↑k4 : Int) < (↑x_0.Stops.length : Int))) = true), ((↑k4 : Int) = ((k4 : Nat) : Int) ∧ k4 < x_0.Stops.length), ((fl Tapi_Stop.enc x_0.Stops) ≠ []), (sub (fl Tapi_Stop.enc x_0.Stops) ((k4 * 3) + 2) 1 = [.str x10.Passage]), ((!(x10.Passage == [])) = true), ((↑k4 : Int) = ((k4 : Nat) : Int) ∧ k4 < x_0.Stops.length), ((fl Tapi_Stop.enc x_0.Stops) ≠ []), (sub (fl Tapi_Stop.enc x_0.Stops) ((k4 * 3) + 2) 1 = [.str x10.Passage]), (0 + 1 ≤ List.length ([.str x10.Passage] : List AV)), (List.length ((fl e_str b1) : List AV) = b1.length), (List.all ([.str x10.Passage] : List AV) AV.one = true), (b1.length + 1 ≤ 4294967296), ((fl e_str b1) ++ [.str x10.Passage] = (fl e_str (b1 ++ [x10.Passage]))), ((.vec 3 (b1.length + 1) 1 : AV) = .vec 3 ((b1 ++ [x10.Passage]).length) 1), (IntKind.min .i64 ≤ ((↑k4 : Int) + 1) ∧ ((↑k4 : Int) + 1) ≤ IntKind.max .i64)]) (by kernel_rfl) (by kernel_rfl) ⟨(decide_eq_true c9), ⟨rfl, get_lt h11⟩, (fl_ne (f := Tapi_Stop.enc) (z := 2) (fun _ => rfl) h11), (fl_sub (f := Tapi_Stop.enc) (z := 3) (j := k4) (a := 2) (n := 1) (fun _ => rfl) h11 (by decide) rfl), (not_t (beq_f c12)), ⟨rfl, get_lt h11⟩, (fl_ne (f := Tapi_Stop.enc) (z := 2) (fun _ => rfl) h11), (fl_sub (f := Tapi_Stop.enc) (z := 3) (j := k4) (a := 2) (n := 1) (fun _ => rfl) h11 (by decide) rfl), (Nat.le_of_ble_eq_true rfl), (fl_length1 (f := e_str) (fun _ => rfl) _), rfl, h14, (fl_snoc rfl), (by simp <;> omega), ok1 h15⟩
theorem tollwayref21_Passages_L1_2 (x_0 : Tapi_Trip) (k4 : Nat) (b1 : (List (List UInt8))) (c9 : ¬ ((↑k4 : Int) < (↑x_0.Stops.length : Int))) : Does Tryd.prog GT 1 (bodyAt Tryd.prog 70 [1, 1, 0, 1, 0, 0]) (tollwayref21_Passages_L1_H x_0 (k4, b1)) (.exit 0) (S 30 [(3, .vec 1 b1.length 1)] [{ c := (Tapi_Trip.enc x_0), e := 90, ext := false, fz := 0, pl := true, o := false }, { c := (fl e_str b1), e := 9, ext := true, fz := 0, pl := true, o := true }]) :=
  Does.of_viewM 1 400 (cs 4 [.op none .a, .br false]) [0, 1] (ps := [((decide ((↑k4 : Int) < (↑x_0.Stops.length : Int))) = false)]) (by kernel_rfl) (by kernel_rfl) (ok1 (decide_eq_false c9))
def tollwayref21_Passages_L1_X (x_0 : Tapi_Trip) : (List (List UInt8)) → AEx := fun o => (.exit 0)
def tollwayref21_Passages_L1_E (x_0 : Tapi_Trip) : (List (List UInt8)) → St := fun o => S 30 [(3, .vec 1 o.length 1)] [{ c := (Tapi_Trip.enc x_0), e := 90, ext := false, fz := 0, pl := true, o := false }, { c := (fl e_str o), e := 9, ext := true, fz := 0, pl := true, o := true }]
theorem tollwayref21_Passages_L1_does (x_0 : Tapi_Trip) {s : (Nat × (List (List UInt8)))} {r : (List (List UInt8))} (h : lp (tollwayref21_Passages_L1_step x_0) s = some r) : Does Tryd.prog GT 1 (.loop (bodyAt Tryd.prog 70 [1, 1, 0, 1, 0, 0])) (tollwayref21_Passages_L1_H x_0 s) (tollwayref21_Passages_L1_X x_0 r) (tollwayref21_Passages_L1_E x_0 r) := by
  refine Does.lp (H := tollwayref21_Passages_L1_H x_0) (X := tollwayref21_Passages_L1_X x_0) (E := tollwayref21_Passages_L1_E x_0) (fun s s2 h => ?_) (fun s r h => ?_) h
  · obtain ⟨k4, b1⟩ := s
    unfold tollwayref21_Passages_L1_step at h
    try dsimp only at h
    rcases ite_some h with ⟨c9, h⟩ | ⟨c9, h⟩
    · obtain ⟨x10, h11, h⟩ := bind_some h
      rcases ite_some h with ⟨c12, h⟩ | ⟨c12, h⟩
      · obtain ⟨h13, h⟩ := guard_some h
        simp only [Option.some.injEq, Sum.inl.injEq] at h
        subst h
        have hq := tollwayref21_Passages_L1_0 x_0 k4 b1 c9 x10 h11 c12 h13
        first | exact hq | exact Eq.mp (by simp only [tollwayref21_Passages_L1_H, List.length_set] <;> rfl) hq
      · obtain ⟨h14, h⟩ := guard_some h
        obtain ⟨h15, h⟩ := guard_some h
        simp only [Option.some.injEq, Sum.inl.injEq] at h
        subst h
        have hq := tollwayref21_Passages_L1_1 x_0 k4 b1 c9 x10 h11 c12 h14 h15
        first | exact hq | exact Eq.mp (by simp only [tollwayref21_Passages_L1_H, List.length_set] <;> rfl) hq
    · simp at h
  · obtain ⟨k4, b1⟩ := s
    unfold tollwayref21_Passages_L1_step at h
    try dsimp only at h
    rcases ite_some h with ⟨c9, h⟩ | ⟨c9, h⟩
    · obtain ⟨x10, h11, h⟩ := bind_some h
      rcases ite_some h with ⟨c12, h⟩ | ⟨c12, h⟩
      · obtain ⟨h13, h⟩ := guard_some h
        simp at h
      · obtain ⟨h14, h⟩ := guard_some h
        obtain ⟨h15, h⟩ := guard_some h
        simp at h
    · simp only [Option.some.injEq, Sum.inr.injEq] at h
      subst h
      exact ⟨tollwayref21_Passages_L1_2 x_0 k4 b1 c9, by intro q; cases q⟩
noncomputable def tollwayref21_Passages (x_0 : Tapi_Trip) : Option (List (List UInt8)) :=
  (lp (tollwayref21_Passages_L1_step x_0) ((0 : Nat), ([] : (List (List UInt8))))).bind fun o1 =>
  some o1
theorem tollwayref21_Passages_0 (x_0 : Tapi_Trip) (o1 : (List (List UInt8))) (hl1 : lp (tollwayref21_Passages_L1_step x_0) ((0 : Nat), ([] : (List (List UInt8)))) = some o1) : Ret Tryd.prog GT 70 [.agg (Tapi_Trip.enc x_0)] (.vec 0 o1.length 1) [{ c := (fl e_str o1), e := 9, ext := true, fz := 0, pl := true, o := true }] :=
  Ret.of_view 400 (cs 5 ((.tr (.wid (.t 3))) :: (.fcut 1 (.exit 0) [(3, .vec 1 o1.length 1)] [{ c := (Tapi_Trip.enc x_0), e := 90, ext := false, fz := 0, pl := true, o := false }, { c := (fl e_str o1), e := 9, ext := true, fz := 0, pl := true, o := true }] [0, 1] [(1, .ptr 0 0), (3, .vec 1 (([] : (List (List UInt8))).length) 1), (4, .int .i64 (↑(0 : Nat) : Int))] [{ c := (Tapi_Trip.enc x_0), e := 90, ext := false, fz := 0, pl := true, o := false }, { c := (fl e_str ([] : (List (List UInt8)))), e := 9, ext := true, fz := 0, pl := true, o := true }]) :: (cs 2 []))) [3] (ps := [(0 ≤ 0), ((.ptr 0 0 : AV) = .ptr 0 0), ((.vec 1 0 1 : AV) = .vec 1 (([] : (List (List UInt8))).length) 1), ((.int .i64 0 : AV) = .int .i64 (↑(0 : Nat) : Int)), (({ c := (Tapi_Trip.enc x_0), e := 90, ext := false, fz := 0, pl := true, o := false } : Blk) = renB [0, 1] { c := (Tapi_Trip.enc x_0), e := 90, ext := false, fz := 0, pl := true, o := false }), (({ c := [], e := 9, ext := true, fz := 0, pl := true, o := true } : Blk) = renB [0, 1] { c := (fl e_str ([] : (List (List UInt8)))), e := 9, ext := true, fz := 0, pl := true, o := true }), (Does Tryd.prog GT 1 (.loop (bodyAt Tryd.prog 70 [1, 1, 0, 1, 0, 0])) (S 30 [(1, .ptr 0 0), (3, .vec 1 (([] : (List (List UInt8))).length) 1), (4, .int .i64 (↑(0 : Nat) : Int))] [{ c := (Tapi_Trip.enc x_0), e := 90, ext := false, fz := 0, pl := true, o := false }, { c := (fl e_str ([] : (List (List UInt8)))), e := 9, ext := true, fz := 0, pl := true, o := true }]) (.exit 0) (S 30 [(3, .vec 1 o1.length 1)] [{ c := (Tapi_Trip.enc x_0), e := 90, ext := false, fz := 0, pl := true, o := false }, { c := (fl e_str o1), e := 9, ext := true, fz := 0, pl := true, o := true }]))]) (by kernel_rfl) (by kernel_rfl) ⟨(Nat.le_refl _), rfl, (by first | rfl | simp only [List.length_replicate, List.length_set]), rfl, rfl, rfl, ok1 (tollwayref21_Passages_L1_does x_0 hl1)⟩
theorem tollwayref21_Passages_ret (x_0 : Tapi_Trip) (r : (List (List UInt8))) (h : tollwayref21_Passages x_0 = some r) : Ret Tryd.prog GT 70 [.agg (Tapi_Trip.enc x_0)] (.vec 0 r.length 1) [{ c := (fl e_str r), e := 9, ext := true, fz := 0, pl := true, o := true }] := by
  unfold tollwayref21_Passages at h
  obtain ⟨o1, hl1, h⟩ := bind_some h
  simp only [Option.some.injEq] at h
  subst h
  exact tollwayref21_Passages_0 x_0 o1 hl1
noncomputable def tollwayref52_among_L3_step (id_1 : (List UInt8)) (r1 : (List (List UInt8))) : Nat → Option (Nat ⊕ (Unit ⊕ Unit)) := fun k6 =>
  if (↑k6 : Int) < (↑r1.length : Int) then
    (r1[k6]?).bind fun x10 =>
    if x10 = id_1 then
      some (Sum.inr (Sum.inl ()))
    else
      if InR .i64 ((↑k6 : Int) + 1) then
        some (Sum.inl (k6 + 1))
      else none
  else
    some (Sum.inr (Sum.inr (())))
def tollwayref52_among_L3_H (id_1 : (List UInt8)) (r1 : (List (List UInt8))) : Nat → St := fun (s : Nat) => S 21 [(1, .str id_1), (5, .vec 0 r1.length 1), (6, .int .i64 (↑s : Int))] [{ c := (fl e_str r1), e := 9, ext := true, fz := 0, pl := true, o := true }]
theorem tollwayref52_among_L3_0 (id_1 : (List UInt8)) (r1 : (List (List UInt8))) (k6 : Nat) (c9 : (↑k6 : Int) < (↑r1.length : Int)) (x10 : (List UInt8)) (h11 : r1[k6]? = some x10) (c12 : x10 = id_1) : Does Tryd.prog GT 1 (bodyAt Tryd.prog 57 [1, 1, 0, 1, 0, 0]) (tollwayref52_among_L3_H id_1 r1 k6) .ret (S 21 [(4, .bool true)] [{ c := (fl e_str r1), e := 9, ext := true, fz := 0, pl := true, o := true }]) :=
  Does.of_viewM 1 400 (cs 3 ((.op none .a) :: (.br true) :: (cs 2 [.op none (.i k6), .op none (.v [.str x10]), .op none .c, .op none .a, .br true, .op none .c]))) [0] (ps := [((decide ((↑k6 : Int) < (↑r1.length : Int))) = true), ((↑k6 : Int) = ((k6 : Nat) : Int) ∧ k6 < r1.length), (sub (fl e_str r1) k6 1 = [.str x10]), ((x10 == id_1) = true)]) (by kernel_rfl) (by kernel_rfl) ⟨(decide_eq_true c9), ⟨rfl, get_lt h11⟩, (fl_sub1 (f := e_str) (fun _ => rfl) h11 rfl), ok1 (beq_t c12)⟩
theorem tollwayref52_among_L3_1 (id_1 : (List UInt8)) (r1 : (List (List UInt8))) (k6 : Nat) (c9 : (↑k6 : Int) < (↑r1.length : Int)) (x10 : (List UInt8)) (h11 : r1[k6]? = some x10) (c12 : ¬ (x10 = id_1)) (h13 : InR .i64 ((↑k6 : Int) + 1)) : Does Tryd.prog GT 1 (bodyAt Tryd.prog 57 [1, 1, 0, 1, 0, 0]) (tollwayref52_among_L3_H id_1 r1 k6) .normal (S 21 [(1, .str id_1), (5, .vec 0 r1.length 1), (6, .int .i64 ((↑k6 : Int) + 1))] [{ c := (fl e_str r1), e := 9, ext := true, fz := 0, pl := true, o := true }]) :=
  Does.of_viewM 1 400 (cs 3 ((.op none .a) :: (.br true) :: (cs 2 [.op none (.i k6), .op none (.v [.str x10]), .op none .c, .op none .a, .br false, .op none .c, .op none .w, .op none .c]))) [0] (ps := [((decide ((↑k6 : Int) < (↑r1.length : Int))) = true), ((↑k6 : Int) = ((k6 : Nat) : Int) ∧ k6 < r1.length), (sub (fl e_str r1) k6 1 = [.str x10]), ((x10 == id_1) = false), (IntKind.min .i64 ≤ ((↑k6 : Int) + 1) ∧ ((↑k6 : Int) + 1) ≤ IntKind.max .i64)]) (by kernel_rfl) (by kernel_rfl) ⟨(decide_eq_true c9), ⟨rfl, get_lt h11⟩, (fl_sub1 (f := e_str) (fun _ => rfl) h11 rfl), (beq_f c12), ok1 h13⟩
theorem tollwayref52_among_L3_2 (id_1 : (List UInt8)) (r1 : (List (List UInt8))) (k6 : Nat) (c9 : ¬ ((↑k6 : Int) < (↑r1.length : Int))) : Does Tryd.prog GT 1 (bodyAt Tryd.prog 57 [1, 1, 0, 1, 0, 0]) (tollwayref52_among_L3_H id_1 r1 k6) (.exit 0) (S 21 [] [{ c := (fl e_str r1), e := 9, ext := true, fz := 0, pl := true, o := true }]) :=
  Does.of_viewM 1 400 (cs 3 [.op none .a, .br false]) [0] (ps := [((decide ((↑k6 : Int) < (↑r1.length : Int))) = false)]) (by kernel_rfl) (by kernel_rfl) (ok1 (decide_eq_false c9))
def tollwayref52_among_L3_X (id_1 : (List UInt8)) (r1 : (List (List UInt8))) : (Unit ⊕ Unit) → AEx := fun q => match q with | Sum.inl o => .ret | Sum.inr (o) => (.exit 0)
def tollwayref52_among_L3_E (id_1 : (List UInt8)) (r1 : (List (List UInt8))) : (Unit ⊕ Unit) → St := fun q => match q with | Sum.inl o => S 21 [(4, .bool true)] [{ c := (fl e_str r1), e := 9, ext := true, fz := 0, pl := true, o := true }] | Sum.inr (o) => S 21 [] [{ c := (fl e_str r1), e := 9, ext := true, fz := 0, pl := true, o := true }]
theorem tollwayref52_among_L3_does (id_1 : (List UInt8)) (r1 : (List (List UInt8))) {s : Nat} {r : Unit ⊕ Unit} (h : lp (tollwayref52_among_L3_step id_1 r1) s = some r) : Does Tryd.prog GT 1 (.loop (bodyAt Tryd.prog 57 [1, 1, 0, 1, 0, 0])) (tollwayref52_among_L3_H id_1 r1 s) (tollwayref52_among_L3_X id_1 r1 r) (tollwayref52_among_L3_E id_1 r1 r) := by
  refine Does.lp (H := tollwayref52_among_L3_H id_1 r1) (X := tollwayref52_among_L3_X id_1 r1) (E := tollwayref52_among_L3_E id_1 r1) (fun s s2 h => ?_) (fun s r h => ?_) h
  · revert h; revert s; intro k6 h
    unfold tollwayref52_among_L3_step at h
    try dsimp only at h
    rcases ite_some h with ⟨c9, h⟩ | ⟨c9, h⟩
    · obtain ⟨x10, h11, h⟩ := bind_some h
      rcases ite_some h with ⟨c12, h⟩ | ⟨c12, h⟩
      · simp at h
      · obtain ⟨h13, h⟩ := guard_some h
        simp only [Option.some.injEq, Sum.inl.injEq] at h
        subst h
        have hq := tollwayref52_among_L3_1 id_1 r1 k6 c9 x10 h11 c12 h13
        first | exact hq | exact Eq.mp (by simp only [tollwayref52_among_L3_H, List.length_set] <;> rfl) hq
    · simp at h
  · revert h; revert s; intro k6 h
    unfold tollwayref52_among_L3_step at h
    try dsimp only at h
    rcases ite_some h with ⟨c9, h⟩ | ⟨c9, h⟩
    · obtain ⟨x10, h11, h⟩ := bind_some h
      rcases ite_some h with ⟨c12, h⟩ | ⟨c12, h⟩
      · simp only [Option.some.injEq, Sum.inr.injEq] at h
        subst h
        exact ⟨tollwayref52_among_L3_0 id_1 r1 k6 c9 x10 h11 c12, by intro q; cases q⟩
      · obtain ⟨h13, h⟩ := guard_some h
        simp at h
    · simp only [Option.some.injEq, Sum.inr.injEq] at h
      subst h
      exact ⟨tollwayref52_among_L3_2 id_1 r1 k6 c9, by intro q; cases q⟩
noncomputable def tollwayref52_among (t_0 : Tapi_Trip) (id_1 : (List UInt8)) : Option Bool :=
  (tollwayref21_Passages t_0).bind fun r1 =>
  (lp (tollwayref52_among_L3_step id_1 r1) (0 : Nat)).bind fun qq => match qq with
  | Sum.inl o3 =>
    some true
  | Sum.inr (o3) =>
    some false
theorem tollwayref52_among_0 (t_0 : Tapi_Trip) (id_1 : (List UInt8)) (r1 : (List (List UInt8))) (h2 : tollwayref21_Passages t_0 = some r1) (o3 : Unit) (hl3 : lp (tollwayref52_among_L3_step id_1 r1) (0 : Nat) = some (Sum.inl o3)) : Ret Tryd.prog GT 57 [.agg (Tapi_Trip.enc t_0), .str id_1] (.bool true) [] :=
  Ret.of_view 400 (cs 3 ((.ret none [.agg (Tapi_Trip.enc t_0)] (.vec 0 r1.length 1) [{ c := (fl e_str r1), e := 9, ext := true, fz := 0, pl := true, o := true }]) :: (cs 2 [.fcut 1 .ret [(4, .bool true)] [{ c := (fl e_str r1), e := 9, ext := true, fz := 0, pl := true, o := true }] [1] [(1, .str id_1), (5, .vec 0 r1.length 1), (6, .int .i64 (↑(0 : Nat) : Int))] [{ c := (fl e_str r1), e := 9, ext := true, fz := 0, pl := true, o := true }]]))) [] (ps := [((.agg (Tapi_Trip.enc t_0) : AV) = .agg (Tapi_Trip.enc t_0)), (Ret Tryd.prog GT 70 [.agg (Tapi_Trip.enc t_0)] (.vec 0 r1.length 1) [{ c := (fl e_str r1), e := 9, ext := true, fz := 0, pl := true, o := true }]), ((.str id_1 : AV) = .str id_1), ((.vec 1 r1.length 1 : AV) = .vec 1 r1.length 1), ((.int .i64 0 : AV) = .int .i64 (↑(0 : Nat) : Int)), (({ c := (fl e_str r1), e := 9, ext := true, fz := 0, pl := true, o := true } : Blk) = renB [1] { c := (fl e_str r1), e := 9, ext := true, fz := 0, pl := true, o := true }), (Does Tryd.prog GT 1 (.loop (bodyAt Tryd.prog 57 [1, 1, 0, 1, 0, 0])) (S 21 [(1, .str id_1), (5, .vec 0 r1.length 1), (6, .int .i64 (↑(0 : Nat) : Int))] [{ c := (fl e_str r1), e := 9, ext := true, fz := 0, pl := true, o := true }]) .ret (S 21 [(4, .bool true)] [{ c := (fl e_str r1), e := 9, ext := true, fz := 0, pl := true, o := true }]))]) (by kernel_rfl) (by kernel_rfl) ⟨rfl, (tollwayref21_Passages_ret t_0 r1 h2), rfl, (by first | rfl | simp only [List.length_replicate, List.length_set]), rfl, rfl, ok1 (tollwayref52_among_L3_does id_1 r1 hl3)⟩
theorem tollwayref52_among_1 (t_0 : Tapi_Trip) (id_1 : (List UInt8)) (r1 : (List (List UInt8))) (h2 : tollwayref21_Passages t_0 = some r1) (o3 : Unit) (hl3 : lp (tollwayref52_among_L3_step id_1 r1) (0 : Nat) = some (Sum.inr (o3))) : Ret Tryd.prog GT 57 [.agg (Tapi_Trip.enc t_0), .str id_1] (.bool false) [] :=
  Ret.of_view 400 (cs 3 ((.ret none [.agg (Tapi_Trip.enc t_0)] (.vec 0 r1.length 1) [{ c := (fl e_str r1), e := 9, ext := true, fz := 0, pl := true, o := true }]) :: (cs 2 [.fcut 1 (.exit 0) [] [{ c := (fl e_str r1), e := 9, ext := true, fz := 0, pl := true, o := true }] [1] [(1, .str id_1), (5, .vec 0 r1.length 1), (6, .int .i64 (↑(0 : Nat) : Int))] [{ c := (fl e_str r1), e := 9, ext := true, fz := 0, pl := true, o := true }], .op none .c]))) [] (ps := [((.agg (Tapi_Trip.enc t_0) : AV) = .agg (Tapi_Trip.enc t_0)), (Ret Tryd.prog GT 70 [.agg (Tapi_Trip.enc t_0)] (.vec 0 r1.length 1) [{ c := (fl e_str r1), e := 9, ext := true, fz := 0, pl := true, o := true }]), ((.str id_1 : AV) = .str id_1), ((.vec 1 r1.length 1 : AV) = .vec 1 r1.length 1), ((.int .i64 0 : AV) = .int .i64 (↑(0 : Nat) : Int)), (({ c := (fl e_str r1), e := 9, ext := true, fz := 0, pl := true, o := true } : Blk) = renB [1] { c := (fl e_str r1), e := 9, ext := true, fz := 0, pl := true, o := true }), (Does Tryd.prog GT 1 (.loop (bodyAt Tryd.prog 57 [1, 1, 0, 1, 0, 0])) (S 21 [(1, .str id_1), (5, .vec 0 r1.length 1), (6, .int .i64 (↑(0 : Nat) : Int))] [{ c := (fl e_str r1), e := 9, ext := true, fz := 0, pl := true, o := true }]) (.exit 0) (S 21 [] [{ c := (fl e_str r1), e := 9, ext := true, fz := 0, pl := true, o := true }]))]) (by kernel_rfl) (by kernel_rfl) ⟨rfl, (tollwayref21_Passages_ret t_0 r1 h2), rfl, (by first | rfl | simp only [List.length_replicate, List.length_set]), rfl, rfl, ok1 (tollwayref52_among_L3_does id_1 r1 hl3)⟩
theorem tollwayref52_among_ret (t_0 : Tapi_Trip) (id_1 : (List UInt8)) (r : Bool) (h : tollwayref52_among t_0 id_1 = some r) : Ret Tryd.prog GT 57 [.agg (Tapi_Trip.enc t_0), .str id_1] (.bool r) [] := by
  unfold tollwayref52_among at h
  obtain ⟨r1, h2, h⟩ := bind_some h
  obtain ⟨qq, hl3, h⟩ := bind_some h
  rcases qq with o3 | o3
  · dsimp only at h
    simp only [Option.some.injEq] at h
    subst h
    exact tollwayref52_among_0 t_0 id_1 r1 h2 o3 hl3
  · dsimp only at h
    simp only [Option.some.injEq] at h
    subst h
    exact tollwayref52_among_1 t_0 id_1 r1 h2 o3 hl3
noncomputable def tollwayref52_facts_L1_step (r_0 : Tapi_Result) (id_1 : (List UInt8)) : (Nat × (List Tapi_Fact)) → Option ((Nat × (List Tapi_Fact)) ⊕ (List Tapi_Fact))
  | (k6, b1) =>
    if (↑k6 : Int) < (↑r_0.Trips.length : Int) then
      (r_0.Trips[k6]?).bind fun x18 =>
      (tollwayref52_among x18 id_1).bind fun r20 =>
      if r20 = true then
        if b1.length + 1 ≤ 4294967296 then
          if ([116, 58] : List UInt8).length + x18.ID.length ≤ 9223372036854775807 then
            (tollwayref52_charge r_0.Charges (([116, 58] : List UInt8) ++ x18.ID)).bind fun r25 =>
            if r25 ≥ (0 : Int) then
              if ((b1 ++ [(⟨([116, 114, 105, 112] : List UInt8), x18.ID, 0⟩ : Tapi_Fact)]).length) + 1 ≤ 4294967296 then
                if InR .i64 ((↑k6 : Int) + 1) then
                  some (Sum.inl ((k6 + 1), ((b1 ++ [(⟨([116, 114, 105, 112] : List UInt8), x18.ID, 0⟩ : Tapi_Fact)]) ++ [(⟨([99, 104, 97, 114, 103, 101] : List UInt8), ([116, 58] : List UInt8) ++ x18.ID, 0⟩ : Tapi_Fact)])))
                else none
              else none
            else
              if InR .i64 ((↑k6 : Int) + 1) then
                some (Sum.inl ((k6 + 1), (b1 ++ [(⟨([116, 114, 105, 112] : List UInt8), x18.ID, 0⟩ : Tapi_Fact)])))
              else none
          else none
        else none
      else
        if InR .i64 ((↑k6 : Int) + 1) then
          some (Sum.inl ((k6 + 1), b1))
        else none
    else
      some (Sum.inr b1)
def tollwayref52_facts_L1_H (r_0 : Tapi_Result) (id_1 : (List UInt8)) : (Nat × (List Tapi_Fact)) → St := fun (s : (Nat × (List Tapi_Fact))) => S 75 [(1, .str id_1), (2, .ptr 0 0), (5, .vec 1 s.2.length 3), (6, .int .i64 (↑s.1 : Int))] [{ c := (Tapi_Result.enc r_0), e := 56, ext := false, fz := 0, pl := true, o := false }, { c := (fl Tapi_Fact.enc s.2), e := 81, ext := true, fz := 0, pl := true, o := true }]
theorem tollwayref52_facts_L1_0 (r_0 : Tapi_Result) (id_1 : (List UInt8)) (k6 : Nat) (b1 : (List Tapi_Fact)) (c17 : (↑k6 : Int) < (↑r_0.Trips.length : Int)) (x18 : Tapi_Trip) (h19 : r_0.Trips[k6]? = some x18) (r20 : Bool) (h21 : tollwayref52_among x18 id_1 = some r20) (c22 : r20 = true) (h23 : b1.length + 1 ≤ 4294967296) (h24 : ([116, 58] : List UInt8).length + x18.ID.length ≤ 9223372036854775807) (r25 : Int) (h26 : tollwayref52_charge r_0.Charges (([116, 58] : List UInt8) ++ x18.ID) = some r25) (c27 : r25 ≥ (0 : Int)) (h28 : ((b1 ++ [(⟨([116, 114, 105, 112] : List UInt8), x18.ID, 0⟩ : Tapi_Fact)]).length) + 1 ≤ 4294967296) (h29 : InR .i64 ((↑k6 : Int) + 1)) : Does Tryd.prog GT 1 (bodyAt Tryd.prog 28 [1, 1, 0, 1, 0, 0]) (tollwayref52_facts_L1_H r_0 id_1 (k6, b1)) .normal (S 75 [(1, .str id_1), (2, .ptr 0 0), (5, .vec 1 (((b1 ++ [(⟨([116, 114, 105, 112] : List UInt8), x18.ID, 0⟩ : Tapi_Fact)]) ++ [(⟨([99, 104, 97, 114, 103, 101] : List UInt8), ([116, 58] : List UInt8) ++ x18.ID, 0⟩ : Tapi_Fact)]).length) 3), (6, .int .i64 ((↑k6 : Int) + 1))] [{ c := (Tapi_Result.enc r_0), e := 56, ext := false, fz := 0, pl := true, o := false }, { c := (fl Tapi_Fact.enc ((b1 ++ [(⟨([116, 114, 105, 112] : List UInt8), x18.ID, 0⟩ : Tapi_Fact)]) ++ [(⟨([99, 104, 97, 114, 103, 101] : List UInt8), ([116, 58] : List UInt8) ++ x18.ID, 0⟩ : Tapi_Fact)])), e := 81, ext := true, fz := 0, pl := true, o := true }]) :=
  Does.of_viewM 1 400 (cs 4 ((.op none .a) :: (.br true) :: (cs 3 ((.op none (.i k6)) :: (.op none (.v [.str x18.ID, .str x18.Vehicle, .str x18.System, .int .i64 x18.Class, .lst (fl Tapi_Stop.enc x18.Stops) x18.Stops.length])) :: (cs 4 ((.ret none [.agg (Tapi_Trip.enc x18), .str id_1] (.bool r20) []) :: (.op none .c) :: (.br false) :: (cs 5 ((.op none (.ap 4)) :: (.tr (.eqc 4 (fl Tapi_Fact.enc (b1 ++ [(⟨([116, 114, 105, 112] : List UInt8), x18.ID, 0⟩ : Tapi_Fact)])))) :: (.tr (.eqt (.t 33) (.vec 4 ((b1 ++ [(⟨([116, 114, 105, 112] : List UInt8), x18.ID, 0⟩ : Tapi_Fact)]).length) 3))) :: (cs 5 ((.op none .a) :: (.ret none [.lst (fl Tapi_Charge.enc r_0.Charges) r_0.Charges.length, .str (([116, 58] : List UInt8) ++ x18.ID)] (.int .i64 r25) []) :: (.op none .a) :: (.br true) :: (cs 3 ((.op none .a) :: (cs 2 ((.op none (.ap 4)) :: (.tr (.eqc 6 (fl Tapi_Fact.enc ((b1 ++ [(⟨([116, 114, 105, 112] : List UInt8), x18.ID, 0⟩ : Tapi_Fact)]) ++ [(⟨([99, 104, 97, 114, 103, 101] : List UInt8), ([116, 58] : List UInt8) ++ x18.ID, 0⟩ : Tapi_Fact)])))) :: (.tr (.eqt (.t 47) (.vec 6 (((b1 ++ [(⟨([116, 114, 105, 112] : List UInt8), x18.ID, 0⟩ : Tapi_Fact)]) ++ [(⟨([99, 104, 97, 114, 103, 101] : List UInt8), ([116, 58] : List UInt8) ++ x18.ID, 0⟩ : Tapi_Fact)]).length) 3))) :: (cs 2 [.op none .w, .op none .c]))))))))))))))) [0, 6] (ps := [((decide ((↑k6 : Int) < (↑r_0.Trips.length : Int))) = true), ((↑k6 : Int) = ((k6 : Nat) : Int) ∧ k6 < r_0.Trips.length), ((fl Tapi_Trip.enc r_0.Trips) ≠ []), (sub (fl Tapi_Trip.enc r_0.Trips) (k6 * 5) 5 = [.str x18.ID, .str x18.Vehicle, .str x18.System, .int .i64 x18.Class, .lst (fl Tapi_Stop.enc x18.Stops) x18.Stops.length]), ((.agg (Tapi_Trip.enc x18) : AV) = .agg (Tapi_Trip.enc x18)), ((.str id_1 : AV) = .str id_1), (Ret Tryd.prog GT 57 [.agg (Tapi_Trip.enc x18), .str id_1] (.bool r20) []), ((!r20) = false), (0 + 3 ≤ List.length ([.str [116, 114, 105, 112], .str x18.ID, .int .i64 0] : List AV)), (List.length ((fl Tapi_Fact.enc b1) : List AV) = (b1.length * 3)), (List.all ([.str [116, 114, 105, 112], .str x18.ID, .int .i64 0] : List AV) AV.one = true), (b1.length + 1 ≤ 4294967296), ((fl Tapi_Fact.enc b1) ++ [.str [116, 114, 105, 112], .str x18.ID, .int .i64 0] = (fl Tapi_Fact.enc (b1 ++ [(⟨([116, 114, 105, 112] : List UInt8), x18.ID, 0⟩ : Tapi_Fact)]))), ((.vec 4 (b1.length + 1) 3 : AV) = .vec 4 ((b1 ++ [(⟨([116, 114, 105, 112] : List UInt8), x18.ID, 0⟩ : Tapi_Fact)]).length) 3), (([116, 58] : List UInt8).length + x18.ID.length ≤ 9223372036854775807), ((.lst (fl Tapi_Charge.enc r_0.Charges) r_0.Charges.length : AV) = .lst (fl Tapi_Charge.enc r_0.Charges) r_0.Charges.length), ((.str (([116, 58] : List UInt8) ++ x18.ID) : AV) = .str (([116, 58] : List UInt8) ++ x18.ID)), (Ret Tryd.prog GT 40 [.lst (fl Tapi_Charge.enc r_0.Charges) r_0.Charges.length, .str (([116, 58] : List UInt8) ++ x18.ID)] (.int .i64 r25) []), ((decide (r25 ≥ (0 : Int))) = true), (([116, 58] : List UInt8).length + x18.ID.length ≤ 9223372036854775807), (0 + 3 ≤ List.length ([.str [99, 104, 97, 114, 103, 101], .str (([116, 58] : List UInt8) ++ x18.ID), .int .i64 0] : List AV)), (List.length ((fl Tapi_Fact.enc (b1 ++ [(⟨([116, 114, 105, 112] : List UInt8), x18.ID, 0⟩ : Tapi_Fact)])) : List AV) = (((b1 ++ [(⟨([116, 114, 105, 112] : List UInt8), x18.ID, 0⟩ : Tapi_Fact)]).length) * 3)), (List.all ([.str [99, 104, 97, 114, 103, 101], .str (([116, 58] : List UInt8) ++ x18.ID), .int .i64 0] : List AV) AV.one = true), (((b1 ++ [(⟨([116, 114, 105, 112] : List UInt8), x18.ID, 0⟩ : Tapi_Fact)]).length) + 1 ≤ 4294967296), ((fl Tapi_Fact.enc (b1 ++ [(⟨([116, 114, 105, 112] : List UInt8), x18.ID, 0⟩ : Tapi_Fact)])) ++ [.str [99, 104, 97, 114, 103, 101], .str (([116, 58] : List UInt8) ++ x18.ID), .int .i64 0] = (fl Tapi_Fact.enc ((b1 ++ [(⟨([116, 114, 105, 112] : List UInt8), x18.ID, 0⟩ : Tapi_Fact)]) ++ [(⟨([99, 104, 97, 114, 103, 101] : List UInt8), ([116, 58] : List UInt8) ++ x18.ID, 0⟩ : Tapi_Fact)]))), ((.vec 6 (((b1 ++ [(⟨([116, 114, 105, 112] : List UInt8), x18.ID, 0⟩ : Tapi_Fact)]).length) + 1) 3 : AV) = .vec 6 (((b1 ++ [(⟨([116, 114, 105, 112] : List UInt8), x18.ID, 0⟩ : Tapi_Fact)]) ++ [(⟨([99, 104, 97, 114, 103, 101] : List UInt8), ([116, 58] : List UInt8) ++ x18.ID, 0⟩ : Tapi_Fact)]).length) 3), (IntKind.min .i64 ≤ ((↑k6 : Int) + 1) ∧ ((↑k6 : Int) + 1) ≤ IntKind.max .i64)]) (by kernel_rfl) (by kernel_rfl) ⟨(decide_eq_true c17), ⟨rfl, get_lt h19⟩, (fl_ne (f := Tapi_Trip.enc) (z := 4) (fun _ => rfl) h19), (fl_sub0 (f := Tapi_Trip.enc) (z := 5) (j := k6) (fun _ => rfl) h19 rfl), rfl, rfl, (tollwayref52_among_ret x18 id_1 r20 h21), (not_f c22), (Nat.le_of_ble_eq_true rfl), (fl_length (f := Tapi_Fact.enc) (z := 3) (fun _ => rfl) _), rfl, h23, (fl_snoc rfl), (by simp <;> omega), h24, rfl, rfl, (tollwayref52_charge_ret r_0.Charges (([116, 58] : List UInt8) ++ x18.ID) r25 h26), (decide_eq_true c27), h24, (Nat.le_of_ble_eq_true rfl), (fl_length (f := Tapi_Fact.enc) (z := 3) (fun _ => rfl) _), rfl, h28, (fl_snoc rfl), (by simp <;> omega), ok1 h29⟩
theorem tollwayref52_facts_L1_1 (r_0 : Tapi_Result) (id_1 : (List UInt8)) (k6 : Nat) (b1 : (List Tapi_Fact)) (c17 : (↑k6 : Int) < (↑r_0.Trips.length : Int)) (x18 : Tapi_Trip) (h19 : r_0.Trips[k6]? = some x18) (r20 : Bool) (h21 : tollwayref52_among x18 id_1 = some r20) (c22 : r20 = true) (h23 : b1.length + 1 ≤ 4294967296) (h24 : ([116, 58] : List UInt8).length + x18.ID.length ≤ 9223372036854775807) (r25 : Int) (h26 : tollwayref52_charge r_0.Charges (([116, 58] : List UInt8) ++ x18.ID) = some r25) (c27 : ¬ (r25 ≥ (0 : Int))) (h30 : InR .i64 ((↑k6 : Int) + 1)) : Does Tryd.prog GT 1 (bodyAt Tryd.prog 28 [1, 1, 0, 1, 0, 0]) (tollwayref52_facts_L1_H r_0 id_1 (k6, b1)) .normal (S 75 [(1, .str id_1), (2, .ptr 0 0), (5, .vec 1 ((b1 ++ [(⟨([116, 114, 105, 112] : List UInt8), x18.ID, 0⟩ : Tapi_Fact)]).length) 3), (6, .int .i64 ((↑k6 : Int) + 1))] [{ c := (Tapi_Result.enc r_0), e := 56, ext := false, fz := 0, pl := true, o := false }, { c := (fl Tapi_Fact.enc (b1 ++ [(⟨([116, 114, 105, 112] : List UInt8), x18.ID, 0⟩ : Tapi_Fact)])), e := 81, ext := true, fz := 0, pl := true, o := true }]) :=
  Does.of_viewM 1 400 (cs 4 ((.op none .a) :: (.br true) :: (cs 3 ((.op none (.i k6)) :: (.op none (.v [.str x18.ID, .str x18.Vehicle, .str x18.System, .int .i64 x18.Class, .lst (fl Tapi_Stop.enc x18.Stops) x18.Stops.length])) :: (cs 4 ((.ret none [.agg (Tapi_Trip.enc x18), .str id_1] (.bool r20) []) :: (.op none .c) :: (.br false) :: (cs 5 ((.op none (.ap 4)) :: (.tr (.eqc 4 (fl Tapi_Fact.enc (b1 ++ [(⟨([116, 114, 105, 112] : List UInt8), x18.ID, 0⟩ : Tapi_Fact)])))) :: (.tr (.eqt (.t 33) (.vec 4 ((b1 ++ [(⟨([116, 114, 105, 112] : List UInt8), x18.ID, 0⟩ : Tapi_Fact)]).length) 3))) :: (cs 5 [.op none .a, .ret none [.lst (fl Tapi_Charge.enc r_0.Charges) r_0.Charges.length, .str (([116, 58] : List UInt8) ++ x18.ID)] (.int .i64 r25) [], .op none .a, .br false, .op none .c, .op none .w, .op none .c]))))))))) [0, 4] (ps := [((decide ((↑k6 : Int) < (↑r_0.Trips.length : Int))) = true), ((↑k6 : Int) = ((k6 : Nat) : Int) ∧ k6 < r_0.Trips.length), ((fl Tapi_Trip.enc r_0.Trips) ≠ []), (sub (fl Tapi_Trip.enc r_0.Trips) (k6 * 5) 5 = [.str x18.ID, .str x18.Vehicle, .str x18.System, .int .i64 x18.Class, .lst (fl Tapi_Stop.enc x18.Stops) x18.Stops.length]), ((.agg (Tapi_Trip.enc x18) : AV) = .agg (Tapi_Trip.enc x18)), ((.str id_1 : AV) = .str id_1), (Ret Tryd.prog GT 57 [.agg (Tapi_Trip.enc x18), .str id_1] (.bool r20) []), ((!r20) = false), (0 + 3 ≤ List.length ([.str [116, 114, 105, 112], .str x18.ID, .int .i64 0] : List AV)), (List.length ((fl Tapi_Fact.enc b1) : List AV) = (b1.length * 3)), (List.all ([.str [116, 114, 105, 112], .str x18.ID, .int .i64 0] : List AV) AV.one = true), (b1.length + 1 ≤ 4294967296), ((fl Tapi_Fact.enc b1) ++ [.str [116, 114, 105, 112], .str x18.ID, .int .i64 0] = (fl Tapi_Fact.enc (b1 ++ [(⟨([116, 114, 105, 112] : List UInt8), x18.ID, 0⟩ : Tapi_Fact)]))), ((.vec 4 (b1.length + 1) 3 : AV) = .vec 4 ((b1 ++ [(⟨([116, 114, 105, 112] : List UInt8), x18.ID, 0⟩ : Tapi_Fact)]).length) 3), (([116, 58] : List UInt8).length + x18.ID.length ≤ 9223372036854775807), ((.lst (fl Tapi_Charge.enc r_0.Charges) r_0.Charges.length : AV) = .lst (fl Tapi_Charge.enc r_0.Charges) r_0.Charges.length), ((.str (([116, 58] : List UInt8) ++ x18.ID) : AV) = .str (([116, 58] : List UInt8) ++ x18.ID)), (Ret Tryd.prog GT 40 [.lst (fl Tapi_Charge.enc r_0.Charges) r_0.Charges.length, .str (([116, 58] : List UInt8) ++ x18.ID)] (.int .i64 r25) []), ((decide (r25 ≥ (0 : Int))) = false), (IntKind.min .i64 ≤ ((↑k6 : Int) + 1) ∧ ((↑k6 : Int) + 1) ≤ IntKind.max .i64)]) (by kernel_rfl) (by kernel_rfl) ⟨(decide_eq_true c17), ⟨rfl, get_lt h19⟩, (fl_ne (f := Tapi_Trip.enc) (z := 4) (fun _ => rfl) h19), (fl_sub0 (f := Tapi_Trip.enc) (z := 5) (j := k6) (fun _ => rfl) h19 rfl), rfl, rfl, (tollwayref52_among_ret x18 id_1 r20 h21), (not_f c22), (Nat.le_of_ble_eq_true rfl), (fl_length (f := Tapi_Fact.enc) (z := 3) (fun _ => rfl) _), rfl, h23, (fl_snoc rfl), (by simp <;> omega), h24, rfl, rfl, (tollwayref52_charge_ret r_0.Charges (([116, 58] : List UInt8) ++ x18.ID) r25 h26), (decide_eq_false c27), ok1 h30⟩
theorem tollwayref52_facts_L1_2 (r_0 : Tapi_Result) (id_1 : (List UInt8)) (k6 : Nat) (b1 : (List Tapi_Fact)) (c17 : (↑k6 : Int) < (↑r_0.Trips.length : Int)) (x18 : Tapi_Trip) (h19 : r_0.Trips[k6]? = some x18) (r20 : Bool) (h21 : tollwayref52_among x18 id_1 = some r20) (c22 : ¬ (r20 = true)) (h31 : InR .i64 ((↑k6 : Int) + 1)) : Does Tryd.prog GT 1 (bodyAt Tryd.prog 28 [1, 1, 0, 1, 0, 0]) (tollwayref52_facts_L1_H r_0 id_1 (k6, b1)) .normal (S 75 [(1, .str id_1), (2, .ptr 0 0), (5, .vec 1 b1.length 3), (6, .int .i64 ((↑k6 : Int) + 1))] [{ c := (Tapi_Result.enc r_0), e := 56, ext := false, fz := 0, pl := true, o := false }, { c := (fl Tapi_Fact.enc b1), e := 81, ext := true, fz := 0, pl := true, o := true }]) :=
  Does.of_viewM 1 400 (cs 4 ((.op none .a) :: (.br true) :: (cs 3 ((.op none (.i k6)) :: (.op none (.v [.str x18.ID, .str x18.Vehicle, .str x18.System, .int .i64 x18.Class, .lst (fl Tapi_Stop.enc x18.Stops) x18.Stops.length])) :: (cs 4 [.ret none [.agg (Tapi_Trip.enc x18), .str id_1] (.bool r20) [], .op none .c, .br true, .op none .c, .op none .w, .op none .c]))))) [0, 1] (ps := [((decide ((↑k6 : Int) < (↑r_0.Trips.length : Int))) = true), ((↑k6 : Int) = ((k6 : Nat) : Int) ∧ k6 < r_0.Trips.length), ((fl Tapi_Trip.enc r_0.Trips) ≠ []), (sub (fl Tapi_Trip.enc r_0.Trips) (k6 * 5) 5 = [.str x18.ID, .str x18.Vehicle, .str x18.System, .int .i64 x18.Class, .lst (fl Tapi_Stop.enc x18.Stops) x18.Stops.length]), ((.agg (Tapi_Trip.enc x18) : AV) = .agg (Tapi_Trip.enc x18)), ((.str id_1 : AV) = .str id_1), (Ret Tryd.prog GT 57 [.agg (Tapi_Trip.enc x18), .str id_1] (.bool r20) []), ((!r20) = true), (IntKind.min .i64 ≤ ((↑k6 : Int) + 1) ∧ ((↑k6 : Int) + 1) ≤ IntKind.max .i64)]) (by kernel_rfl) (by kernel_rfl) ⟨(decide_eq_true c17), ⟨rfl, get_lt h19⟩, (fl_ne (f := Tapi_Trip.enc) (z := 4) (fun _ => rfl) h19), (fl_sub0 (f := Tapi_Trip.enc) (z := 5) (j := k6) (fun _ => rfl) h19 rfl), rfl, rfl, (tollwayref52_among_ret x18 id_1 r20 h21), (not_t (eq_false_of_ne_true c22)), ok1 h31⟩
theorem tollwayref52_facts_L1_3 (r_0 : Tapi_Result) (id_1 : (List UInt8)) (k6 : Nat) (b1 : (List Tapi_Fact)) (c17 : ¬ ((↑k6 : Int) < (↑r_0.Trips.length : Int))) : Does Tryd.prog GT 1 (bodyAt Tryd.prog 28 [1, 1, 0, 1, 0, 0]) (tollwayref52_facts_L1_H r_0 id_1 (k6, b1)) (.exit 0) (S 75 [(1, .str id_1), (2, .ptr 0 0), (5, .vec 1 b1.length 3)] [{ c := (Tapi_Result.enc r_0), e := 56, ext := false, fz := 0, pl := true, o := false }, { c := (fl Tapi_Fact.enc b1), e := 81, ext := true, fz := 0, pl := true, o := true }]) :=
  Does.of_viewM 1 400 (cs 4 [.op none .a, .br false]) [0, 1] (ps := [((decide ((↑k6 : Int) < (↑r_0.Trips.length : Int))) = false)]) (by kernel_rfl) (by kernel_rfl) (ok1 (decide_eq_false c17))
def tollwayref52_facts_L1_X (r_0 : Tapi_Result) (id_1 : (List UInt8)) : (List Tapi_Fact) → AEx := fun o => (.exit 0)
def tollwayref52_facts_L1_E (r_0 : Tapi_Result) (id_1 : (List UInt8)) : (List Tapi_Fact) → St := fun o => S 75 [(1, .str id_1), (2, .ptr 0 0), (5, .vec 1 o.length 3)] [{ c := (Tapi_Result.enc r_0), e := 56, ext := false, fz := 0, pl := true, o := false }, { c := (fl Tapi_Fact.enc o), e := 81, ext := true, fz := 0, pl := true, o := true }]
theorem tollwayref52_facts_L1_does (r_0 : Tapi_Result) (id_1 : (List UInt8)) {s : (Nat × (List Tapi_Fact))} {r : (List Tapi_Fact)} (h : lp (tollwayref52_facts_L1_step r_0 id_1) s = some r) : Does Tryd.prog GT 1 (.loop (bodyAt Tryd.prog 28 [1, 1, 0, 1, 0, 0])) (tollwayref52_facts_L1_H r_0 id_1 s) (tollwayref52_facts_L1_X r_0 id_1 r) (tollwayref52_facts_L1_E r_0 id_1 r) := by
  refine Does.lp (H := tollwayref52_facts_L1_H r_0 id_1) (X := tollwayref52_facts_L1_X r_0 id_1) (E := tollwayref52_facts_L1_E r_0 id_1) (fun s s2 h => ?_) (fun s r h => ?_) h
  · obtain ⟨k6, b1⟩ := s
    unfold tollwayref52_facts_L1_step at h
    try dsimp only at h
    rcases ite_some h with ⟨c17, h⟩ | ⟨c17, h⟩
    · obtain ⟨x18, h19, h⟩ := bind_some h
      obtain ⟨r20, h21, h⟩ := bind_some h
      rcases ite_some h with ⟨c22, h⟩ | ⟨c22, h⟩
      · obtain ⟨h23, h⟩ := guard_some h
        obtain ⟨h24, h⟩ := guard_some h
        obtain ⟨r25, h26, h⟩ := bind_some h
        rcases ite_some h with ⟨c27, h⟩ | ⟨c27, h⟩
        · obtain ⟨h28, h⟩ := guard_some h
          obtain ⟨h29, h⟩ := guard_some h
          simp only [Option.some.injEq, Sum.inl.injEq] at h
          subst h
          have hq := tollwayref52_facts_L1_0 r_0 id_1 k6 b1 c17 x18 h19 r20 h21 c22 h23 h24 r25 h26 c27 h28 h29
          first | exact hq | exact Eq.mp (by simp only [tollwayref52_facts_L1_H, List.length_set] <;> rfl) hq
        · obtain ⟨h30, h⟩ := guard_some h
          simp only [Option.some.injEq, Sum.inl.injEq] at h
          subst h
          have hq := tollwayref52_facts_L1_1 r_0 id_1 k6 b1 c17 x18 h19 r20 h21 c22 h23 h24 r25 h26 c27 h30
          first | exact hq | exact Eq.mp (by simp only [tollwayref52_facts_L1_H, List.length_set] <;> rfl) hq
      · obtain ⟨h31, h⟩ := guard_some h
        simp only [Option.some.injEq, Sum.inl.injEq] at h
        subst h
        have hq := tollwayref52_facts_L1_2 r_0 id_1 k6 b1 c17 x18 h19 r20 h21 c22 h31
        first | exact hq | exact Eq.mp (by simp only [tollwayref52_facts_L1_H, List.length_set] <;> rfl) hq
    · simp at h
  · obtain ⟨k6, b1⟩ := s
    unfold tollwayref52_facts_L1_step at h
    try dsimp only at h
    rcases ite_some h with ⟨c17, h⟩ | ⟨c17, h⟩
    · obtain ⟨x18, h19, h⟩ := bind_some h
      obtain ⟨r20, h21, h⟩ := bind_some h
      rcases ite_some h with ⟨c22, h⟩ | ⟨c22, h⟩
      · obtain ⟨h23, h⟩ := guard_some h
        obtain ⟨h24, h⟩ := guard_some h
        obtain ⟨r25, h26, h⟩ := bind_some h
        rcases ite_some h with ⟨c27, h⟩ | ⟨c27, h⟩
        · obtain ⟨h28, h⟩ := guard_some h
          obtain ⟨h29, h⟩ := guard_some h
          simp at h
        · obtain ⟨h30, h⟩ := guard_some h
          simp at h
      · obtain ⟨h31, h⟩ := guard_some h
        simp at h
    · simp only [Option.some.injEq, Sum.inr.injEq] at h
      subst h
      exact ⟨tollwayref52_facts_L1_3 r_0 id_1 k6 b1 c17, by intro q; cases q⟩
noncomputable def tollwayref52_facts_L32_step (r_0 : Tapi_Result) (id_1 : (List UInt8)) : (Nat × (List Tapi_Fact)) → Option ((Nat × (List Tapi_Fact)) ⊕ (List Tapi_Fact))
  | (k8, b3) =>
    if (↑k8 : Int) < (↑r_0.Exclusions.length : Int) then
      (r_0.Exclusions[k8]?).bind fun x41 =>
      if x41.ID = id_1 then
        if b3.length + 1 ≤ 4294967296 then
          if InR .i64 ((↑k8 : Int) + 1) then
            some (Sum.inl ((k8 + 1), (b3 ++ [(⟨([101, 120, 99, 108, 117, 115, 105, 111, 110] : List UInt8), id_1, x41.Why⟩ : Tapi_Fact)])))
          else none
        else none
      else
        if InR .i64 ((↑k8 : Int) + 1) then
          some (Sum.inl ((k8 + 1), b3))
        else none
    else
      some (Sum.inr b3)
def tollwayref52_facts_L32_H (r_0 : Tapi_Result) (id_1 : (List UInt8)) : (Nat × (List Tapi_Fact)) → St := fun (s : (Nat × (List Tapi_Fact))) => S 75 [(1, .str id_1), (2, .ptr 0 0), (5, .vec 1 s.2.length 3), (8, .int .i64 (↑s.1 : Int))] [{ c := (Tapi_Result.enc r_0), e := 56, ext := false, fz := 0, pl := true, o := false }, { c := (fl Tapi_Fact.enc s.2), e := 81, ext := true, fz := 0, pl := true, o := true }]
theorem tollwayref52_facts_L32_0 (r_0 : Tapi_Result) (id_1 : (List UInt8)) (k8 : Nat) (b3 : (List Tapi_Fact)) (c40 : (↑k8 : Int) < (↑r_0.Exclusions.length : Int)) (x41 : Tapi_Exclusion) (h42 : r_0.Exclusions[k8]? = some x41) (c43 : x41.ID = id_1) (h44 : b3.length + 1 ≤ 4294967296) (h45 : InR .i64 ((↑k8 : Int) + 1)) : Does Tryd.prog GT 1 (bodyAt Tryd.prog 28 [1, 1, 1, 0, 1, 0, 0]) (tollwayref52_facts_L32_H r_0 id_1 (k8, b3)) .normal (S 75 [(1, .str id_1), (2, .ptr 0 0), (5, .vec 1 ((b3 ++ [(⟨([101, 120, 99, 108, 117, 115, 105, 111, 110] : List UInt8), id_1, x41.Why⟩ : Tapi_Fact)]).length) 3), (8, .int .i64 ((↑k8 : Int) + 1))] [{ c := (Tapi_Result.enc r_0), e := 56, ext := false, fz := 0, pl := true, o := false }, { c := (fl Tapi_Fact.enc (b3 ++ [(⟨([101, 120, 99, 108, 117, 115, 105, 111, 110] : List UInt8), id_1, x41.Why⟩ : Tapi_Fact)])), e := 81, ext := true, fz := 0, pl := true, o := true }]) :=
  Does.of_viewM 1 400 (cs 4 ((.op none .a) :: (.br true) :: (cs 3 ((.op none (.i k8)) :: (.op none .c) :: (.op none (.v [.str x41.ID])) :: (.op none .c) :: (.op none .a) :: (.br true) :: (cs 5 ((.op none (.i k8)) :: (.op none .c) :: (.op none (.v [.int .i64 x41.Why])) :: (cs 2 ((.op none (.ap 4)) :: (.tr (.eqc 3 (fl Tapi_Fact.enc (b3 ++ [(⟨([101, 120, 99, 108, 117, 115, 105, 111, 110] : List UInt8), id_1, x41.Why⟩ : Tapi_Fact)])))) :: (.tr (.eqt (.t 73) (.vec 3 ((b3 ++ [(⟨([101, 120, 99, 108, 117, 115, 105, 111, 110] : List UInt8), id_1, x41.Why⟩ : Tapi_Fact)]).length) 3))) :: (cs 2 [.op none .w, .op none .c]))))))))) [0, 3] (ps := [((decide ((↑k8 : Int) < (↑r_0.Exclusions.length : Int))) = true), ((↑k8 : Int) = ((k8 : Nat) : Int) ∧ k8 < r_0.Exclusions.length), ((fl Tapi_Exclusion.enc r_0.Exclusions) ≠ []), (sub (fl Tapi_Exclusion.enc r_0.Exclusions) (k8 * 2) 1 = [.str x41.ID]), ((x41.ID == id_1) = true), ((↑k8 : Int) = ((k8 : Nat) : Int) ∧ k8 < r_0.Exclusions.length), ((fl Tapi_Exclusion.enc r_0.Exclusions) ≠ []), (sub (fl Tapi_Exclusion.enc r_0.Exclusions) ((k8 * 2) + 1) 1 = [.int .i64 x41.Why]), (0 + 3 ≤ List.length ([.str [101, 120, 99, 108, 117, 115, 105, 111, 110], .str id_1, .int .i64 x41.Why] : List AV)), (List.length ((fl Tapi_Fact.enc b3) : List AV) = (b3.length * 3)), (List.all ([.str [101, 120, 99, 108, 117, 115, 105, 111, 110], .str id_1, .int .i64 x41.Why] : List AV) AV.one = true), (b3.length + 1 ≤ 4294967296), ((fl Tapi_Fact.enc b3) ++ [.str [101, 120, 99, 108, 117, 115, 105, 111, 110], .str id_1, .int .i64 x41.Why] = (fl Tapi_Fact.enc (b3 ++ [(⟨([101, 120, 99, 108, 117, 115, 105, 111, 110] : List UInt8), id_1, x41.Why⟩ : Tapi_Fact)]))), ((.vec 3 (b3.length + 1) 3 : AV) = .vec 3 ((b3 ++ [(⟨([101, 120, 99, 108, 117, 115, 105, 111, 110] : List UInt8), id_1, x41.Why⟩ : Tapi_Fact)]).length) 3), (IntKind.min .i64 ≤ ((↑k8 : Int) + 1) ∧ ((↑k8 : Int) + 1) ≤ IntKind.max .i64)]) (by kernel_rfl) (by kernel_rfl) ⟨(decide_eq_true c40), ⟨rfl, get_lt h42⟩, (fl_ne (f := Tapi_Exclusion.enc) (z := 1) (fun _ => rfl) h42), (fl_sub (f := Tapi_Exclusion.enc) (z := 2) (j := k8) (a := 0) (n := 1) (fun _ => rfl) h42 (by decide) rfl), (beq_t c43), ⟨rfl, get_lt h42⟩, (fl_ne (f := Tapi_Exclusion.enc) (z := 1) (fun _ => rfl) h42), (fl_sub (f := Tapi_Exclusion.enc) (z := 2) (j := k8) (a := 1) (n := 1) (fun _ => rfl) h42 (by decide) rfl), (Nat.le_of_ble_eq_true rfl), (fl_length (f := Tapi_Fact.enc) (z := 3) (fun _ => rfl) _), rfl, h44, (fl_snoc rfl), (by simp <;> omega), ok1 h45⟩
theorem tollwayref52_facts_L32_1 (r_0 : Tapi_Result) (id_1 : (List UInt8)) (k8 : Nat) (b3 : (List Tapi_Fact)) (c40 : (↑k8 : Int) < (↑r_0.Exclusions.length : Int)) (x41 : Tapi_Exclusion) (h42 : r_0.Exclusions[k8]? = some x41) (c43 : ¬ (x41.ID = id_1)) (h46 : InR .i64 ((↑k8 : Int) + 1)) : Does Tryd.prog GT 1 (bodyAt Tryd.prog 28 [1, 1, 1, 0, 1, 0, 0]) (tollwayref52_facts_L32_H r_0 id_1 (k8, b3)) .normal (S 75 [(1, .str id_1), (2, .ptr 0 0), (5, .vec 1 b3.length 3), (8, .int .i64 ((↑k8 : Int) + 1))] [{ c := (Tapi_Result.enc r_0), e := 56, ext := false, fz := 0, pl := true, o := false }, { c := (fl Tapi_Fact.enc b3), e := 81, ext := true, fz := 0, pl := true, o := true }]) :=
  Does.of_viewM 1 400 (cs 4 ((.op none .a) :: (.br true) :: (cs 3 [.op none (.i k8), .op none .c, .op none (.v [.str x41.ID]), .op none .c, .op none .a, .br false, .op none .c, .op none .w, .op none .c]))) [0, 1] (ps := [((decide ((↑k8 : Int) < (↑r_0.Exclusions.length : Int))) = true), ((↑k8 : Int) = ((k8 : Nat) : Int) ∧ k8 < r_0.Exclusions.length), ((fl Tapi_Exclusion.enc r_0.Exclusions) ≠ []), (sub (fl Tapi_Exclusion.enc r_0.Exclusions) (k8 * 2) 1 = [.str x41.ID]), ((x41.ID == id_1) = false), (IntKind.min .i64 ≤ ((↑k8 : Int) + 1) ∧ ((↑k8 : Int) + 1) ≤ IntKind.max .i64)]) (by kernel_rfl) (by kernel_rfl) ⟨(decide_eq_true c40), ⟨rfl, get_lt h42⟩, (fl_ne (f := Tapi_Exclusion.enc) (z := 1) (fun _ => rfl) h42), (fl_sub (f := Tapi_Exclusion.enc) (z := 2) (j := k8) (a := 0) (n := 1) (fun _ => rfl) h42 (by decide) rfl), (beq_f c43), ok1 h46⟩
theorem tollwayref52_facts_L32_2 (r_0 : Tapi_Result) (id_1 : (List UInt8)) (k8 : Nat) (b3 : (List Tapi_Fact)) (c40 : ¬ ((↑k8 : Int) < (↑r_0.Exclusions.length : Int))) : Does Tryd.prog GT 1 (bodyAt Tryd.prog 28 [1, 1, 1, 0, 1, 0, 0]) (tollwayref52_facts_L32_H r_0 id_1 (k8, b3)) (.exit 2) (S 75 [(5, .vec 1 b3.length 3)] [{ c := (Tapi_Result.enc r_0), e := 56, ext := false, fz := 0, pl := true, o := false }, { c := (fl Tapi_Fact.enc b3), e := 81, ext := true, fz := 0, pl := true, o := true }]) :=
  Does.of_viewM 1 400 (cs 4 [.op none .a, .br false]) [0, 1] (ps := [((decide ((↑k8 : Int) < (↑r_0.Exclusions.length : Int))) = false)]) (by kernel_rfl) (by kernel_rfl) (ok1 (decide_eq_false c40))
def tollwayref52_facts_L32_X (r_0 : Tapi_Result) (id_1 : (List UInt8)) : (List Tapi_Fact) → AEx := fun o => (.exit 2)
def tollwayref52_facts_L32_E (r_0 : Tapi_Result) (id_1 : (List UInt8)) : (List Tapi_Fact) → St := fun o => S 75 [(5, .vec 1 o.length 3)] [{ c := (Tapi_Result.enc r_0), e := 56, ext := false, fz := 0, pl := true, o := false }, { c := (fl Tapi_Fact.enc o), e := 81, ext := true, fz := 0, pl := true, o := true }]
theorem tollwayref52_facts_L32_does (r_0 : Tapi_Result) (id_1 : (List UInt8)) {s : (Nat × (List Tapi_Fact))} {r : (List Tapi_Fact)} (h : lp (tollwayref52_facts_L32_step r_0 id_1) s = some r) : Does Tryd.prog GT 1 (.loop (bodyAt Tryd.prog 28 [1, 1, 1, 0, 1, 0, 0])) (tollwayref52_facts_L32_H r_0 id_1 s) (tollwayref52_facts_L32_X r_0 id_1 r) (tollwayref52_facts_L32_E r_0 id_1 r) := by
  refine Does.lp (H := tollwayref52_facts_L32_H r_0 id_1) (X := tollwayref52_facts_L32_X r_0 id_1) (E := tollwayref52_facts_L32_E r_0 id_1) (fun s s2 h => ?_) (fun s r h => ?_) h
  · obtain ⟨k8, b3⟩ := s
    unfold tollwayref52_facts_L32_step at h
    try dsimp only at h
    rcases ite_some h with ⟨c40, h⟩ | ⟨c40, h⟩
    · obtain ⟨x41, h42, h⟩ := bind_some h
      rcases ite_some h with ⟨c43, h⟩ | ⟨c43, h⟩
      · obtain ⟨h44, h⟩ := guard_some h
        obtain ⟨h45, h⟩ := guard_some h
        simp only [Option.some.injEq, Sum.inl.injEq] at h
        subst h
        have hq := tollwayref52_facts_L32_0 r_0 id_1 k8 b3 c40 x41 h42 c43 h44 h45
        first | exact hq | exact Eq.mp (by simp only [tollwayref52_facts_L32_H, List.length_set] <;> rfl) hq
      · obtain ⟨h46, h⟩ := guard_some h
        simp only [Option.some.injEq, Sum.inl.injEq] at h
        subst h
        have hq := tollwayref52_facts_L32_1 r_0 id_1 k8 b3 c40 x41 h42 c43 h46
        first | exact hq | exact Eq.mp (by simp only [tollwayref52_facts_L32_H, List.length_set] <;> rfl) hq
    · simp at h
  · obtain ⟨k8, b3⟩ := s
    unfold tollwayref52_facts_L32_step at h
    try dsimp only at h
    rcases ite_some h with ⟨c40, h⟩ | ⟨c40, h⟩
    · obtain ⟨x41, h42, h⟩ := bind_some h
      rcases ite_some h with ⟨c43, h⟩ | ⟨c43, h⟩
      · obtain ⟨h44, h⟩ := guard_some h
        obtain ⟨h45, h⟩ := guard_some h
        simp at h
      · obtain ⟨h46, h⟩ := guard_some h
        simp at h
    · simp only [Option.some.injEq, Sum.inr.injEq] at h
      subst h
      exact ⟨tollwayref52_facts_L32_2 r_0 id_1 k8 b3 c40, by intro q; cases q⟩
noncomputable def tollwayref52_facts (r_0 : Tapi_Result) (id_1 : (List UInt8)) : Option (List Tapi_Fact) :=
  (lp (tollwayref52_facts_L1_step r_0 id_1) ((0 : Nat), ([(⟨([112, 97, 115, 115, 97, 103, 101] : List UInt8), id_1, 0⟩ : Tapi_Fact)] : (List Tapi_Fact)))).bind fun o1 =>
  (lp (tollwayref52_facts_L32_step r_0 id_1) ((0 : Nat), o1)).bind fun o32 =>
  some o32
theorem tollwayref52_facts_0 (r_0 : Tapi_Result) (id_1 : (List UInt8)) (o1 : (List Tapi_Fact)) (hl1 : lp (tollwayref52_facts_L1_step r_0 id_1) ((0 : Nat), ([(⟨([112, 97, 115, 115, 97, 103, 101] : List UInt8), id_1, 0⟩ : Tapi_Fact)] : (List Tapi_Fact))) = some o1) (o32 : (List Tapi_Fact)) (hl32 : lp (tollwayref52_facts_L32_step r_0 id_1) ((0 : Nat), o1) = some o32) : Ret Tryd.prog GT 28 [.agg (Tapi_Result.enc r_0), .str id_1] (.vec 0 o32.length 3) [{ c := (fl Tapi_Fact.enc o32), e := 81, ext := true, fz := 0, pl := true, o := true }] :=
  Ret.of_view 400 (cs 7 ((.tr (.wid (.t 5))) :: (.fcut 1 (.exit 0) [(1, .str id_1), (2, .ptr 0 0), (5, .vec 1 o1.length 3)] [{ c := (Tapi_Result.enc r_0), e := 56, ext := false, fz := 0, pl := true, o := false }, { c := (fl Tapi_Fact.enc o1), e := 81, ext := true, fz := 0, pl := true, o := true }] [0, 1] [(1, .str id_1), (2, .ptr 0 0), (5, .vec 1 (([(⟨([112, 97, 115, 115, 97, 103, 101] : List UInt8), id_1, 0⟩ : Tapi_Fact)] : (List Tapi_Fact)).length) 3), (6, .int .i64 (↑(0 : Nat) : Int))] [{ c := (Tapi_Result.enc r_0), e := 56, ext := false, fz := 0, pl := true, o := false }, { c := (fl Tapi_Fact.enc ([(⟨([112, 97, 115, 115, 97, 103, 101] : List UInt8), id_1, 0⟩ : Tapi_Fact)] : (List Tapi_Fact))), e := 81, ext := true, fz := 0, pl := true, o := true }]) :: (.op none .c) :: (.fcut 1 (.exit 2) [(5, .vec 1 o32.length 3)] [{ c := (Tapi_Result.enc r_0), e := 56, ext := false, fz := 0, pl := true, o := false }, { c := (fl Tapi_Fact.enc o32), e := 81, ext := true, fz := 0, pl := true, o := true }] [0, 3] [(1, .str id_1), (2, .ptr 0 0), (5, .vec 1 o1.length 3), (8, .int .i64 (↑(0 : Nat) : Int))] [{ c := (Tapi_Result.enc r_0), e := 56, ext := false, fz := 0, pl := true, o := false }, { c := (fl Tapi_Fact.enc o1), e := 81, ext := true, fz := 0, pl := true, o := true }]) :: (cs 2 []))) [5] (ps := [(1 ≤ 1), ((.str id_1 : AV) = .str id_1), ((.ptr 0 0 : AV) = .ptr 0 0), ((.vec 1 1 3 : AV) = .vec 1 (([(⟨([112, 97, 115, 115, 97, 103, 101] : List UInt8), id_1, 0⟩ : Tapi_Fact)] : (List Tapi_Fact)).length) 3), ((.int .i64 0 : AV) = .int .i64 (↑(0 : Nat) : Int)), (({ c := (Tapi_Result.enc r_0), e := 56, ext := false, fz := 0, pl := true, o := false } : Blk) = renB [0, 1] { c := (Tapi_Result.enc r_0), e := 56, ext := false, fz := 0, pl := true, o := false }), (({ c := [.str [112, 97, 115, 115, 97, 103, 101], .str id_1, .int .i64 0], e := 81, ext := true, fz := 0, pl := true, o := true } : Blk) = renB [0, 1] { c := (fl Tapi_Fact.enc ([(⟨([112, 97, 115, 115, 97, 103, 101] : List UInt8), id_1, 0⟩ : Tapi_Fact)] : (List Tapi_Fact))), e := 81, ext := true, fz := 0, pl := true, o := true }), (Does Tryd.prog GT 1 (.loop (bodyAt Tryd.prog 28 [1, 1, 0, 1, 0, 0])) (S 75 [(1, .str id_1), (2, .ptr 0 0), (5, .vec 1 (([(⟨([112, 97, 115, 115, 97, 103, 101] : List UInt8), id_1, 0⟩ : Tapi_Fact)] : (List Tapi_Fact)).length) 3), (6, .int .i64 (↑(0 : Nat) : Int))] [{ c := (Tapi_Result.enc r_0), e := 56, ext := false, fz := 0, pl := true, o := false }, { c := (fl Tapi_Fact.enc ([(⟨([112, 97, 115, 115, 97, 103, 101] : List UInt8), id_1, 0⟩ : Tapi_Fact)] : (List Tapi_Fact))), e := 81, ext := true, fz := 0, pl := true, o := true }]) (.exit 0) (S 75 [(1, .str id_1), (2, .ptr 0 0), (5, .vec 1 o1.length 3)] [{ c := (Tapi_Result.enc r_0), e := 56, ext := false, fz := 0, pl := true, o := false }, { c := (fl Tapi_Fact.enc o1), e := 81, ext := true, fz := 0, pl := true, o := true }])), ((.str id_1 : AV) = .str id_1), ((.ptr 0 0 : AV) = .ptr 0 0), ((.vec 3 o1.length 3 : AV) = .vec 3 o1.length 3), ((.int .i64 0 : AV) = .int .i64 (↑(0 : Nat) : Int)), (({ c := (Tapi_Result.enc r_0), e := 56, ext := false, fz := 0, pl := true, o := false } : Blk) = renB [0, 3] { c := (Tapi_Result.enc r_0), e := 56, ext := false, fz := 0, pl := true, o := false }), (({ c := (fl Tapi_Fact.enc o1), e := 81, ext := true, fz := 0, pl := true, o := true } : Blk) = renB [0, 3] { c := (fl Tapi_Fact.enc o1), e := 81, ext := true, fz := 0, pl := true, o := true }), (Does Tryd.prog GT 1 (.loop (bodyAt Tryd.prog 28 [1, 1, 1, 0, 1, 0, 0])) (S 75 [(1, .str id_1), (2, .ptr 0 0), (5, .vec 1 o1.length 3), (8, .int .i64 (↑(0 : Nat) : Int))] [{ c := (Tapi_Result.enc r_0), e := 56, ext := false, fz := 0, pl := true, o := false }, { c := (fl Tapi_Fact.enc o1), e := 81, ext := true, fz := 0, pl := true, o := true }]) (.exit 2) (S 75 [(5, .vec 1 o32.length 3)] [{ c := (Tapi_Result.enc r_0), e := 56, ext := false, fz := 0, pl := true, o := false }, { c := (fl Tapi_Fact.enc o32), e := 81, ext := true, fz := 0, pl := true, o := true }]))]) (by kernel_rfl) (by kernel_rfl) ⟨(Nat.le_refl _), rfl, rfl, (by first | rfl | simp only [List.length_replicate, List.length_set]), rfl, rfl, rfl, (tollwayref52_facts_L1_does r_0 id_1 hl1), rfl, rfl, (by first | rfl | simp only [List.length_replicate, List.length_set]), rfl, rfl, rfl, ok1 (tollwayref52_facts_L32_does r_0 id_1 hl32)⟩
theorem tollwayref52_facts_ret (r_0 : Tapi_Result) (id_1 : (List UInt8)) (r : (List Tapi_Fact)) (h : tollwayref52_facts r_0 id_1 = some r) : Ret Tryd.prog GT 28 [.agg (Tapi_Result.enc r_0), .str id_1] (.vec 0 r.length 3) [{ c := (fl Tapi_Fact.enc r), e := 81, ext := true, fz := 0, pl := true, o := true }] := by
  unfold tollwayref52_facts at h
  obtain ⟨o1, hl1, h⟩ := bind_some h
  obtain ⟨o32, hl32, h⟩ := bind_some h
  simp only [Option.some.injEq] at h
  subst h
  exact tollwayref52_facts_0 r_0 id_1 o1 hl1 o32 hl32
noncomputable def tollwayref52_Detection_L6_step (s_0 : Tapi_State) (x_1 : Tapi_Source) : (Nat × (List Tapi_Fact)) → Option ((Nat × (List Tapi_Fact)) ⊕ (List Tapi_Fact))
  | (k7, b2) =>
    if (↑k7 : Int) < (↑s_0.Result.Rejects.length : Int) then
      (s_0.Result.Rejects[k7]?).bind fun x19 =>
      (tollwayref52_is x19.D x_1).bind fun r21 =>
      if r21 = true then
        (tollwayref52_key x_1).bind fun r24 =>
        if b2.length + 1 ≤ 4294967296 then
          if InR .i64 ((↑k7 : Int) + 1) then
            some (Sum.inl ((k7 + 1), (b2 ++ [(⟨([114, 101, 106, 101, 99, 116] : List UInt8), r24, x19.Why⟩ : Tapi_Fact)])))
          else none
        else none
      else
        if InR .i64 ((↑k7 : Int) + 1) then
          some (Sum.inl ((k7 + 1), b2))
        else none
    else
      some (Sum.inr b2)
def tollwayref52_Detection_L6_H (s_0 : Tapi_State) (x_1 : Tapi_Source) : (Nat × (List Tapi_Fact)) → St := fun (s : (Nat × (List Tapi_Fact))) => S 90 [(2, .ptr 0 0), (3, .ptr 1 0), (6, .vec 2 s.2.length 3), (7, .int .i64 (↑s.1 : Int))] [{ c := (Tapi_State.enc s_0), e := 64, ext := false, fz := 0, pl := true, o := false }, { c := (Tapi_Source.enc x_1), e := 66, ext := false, fz := 0, pl := true, o := false }, { c := (fl Tapi_Fact.enc s.2), e := 81, ext := true, fz := 0, pl := true, o := true }]
theorem tollwayref52_Detection_L6_0 (s_0 : Tapi_State) (x_1 : Tapi_Source) (k7 : Nat) (b2 : (List Tapi_Fact)) (c18 : (↑k7 : Int) < (↑s_0.Result.Rejects.length : Int)) (x19 : Tapi_Reject) (h20 : s_0.Result.Rejects[k7]? = some x19) (r21 : Bool) (h22 : tollwayref52_is x19.D x_1 = some r21) (c23 : r21 = true) (r24 : (List UInt8)) (h25 : tollwayref52_key x_1 = some r24) (h26 : b2.length + 1 ≤ 4294967296) (h27 : InR .i64 ((↑k7 : Int) + 1)) : Does Tryd.prog GT 2 (bodyAt Tryd.prog 10 [1, 1, 1, 0, 1, 0, 0]) (tollwayref52_Detection_L6_H s_0 x_1 (k7, b2)) .normal (S 90 [(2, .ptr 0 0), (3, .ptr 1 0), (6, .vec 2 ((b2 ++ [(⟨([114, 101, 106, 101, 99, 116] : List UInt8), r24, x19.Why⟩ : Tapi_Fact)]).length) 3), (7, .int .i64 ((↑k7 : Int) + 1))] [{ c := (Tapi_State.enc s_0), e := 64, ext := false, fz := 0, pl := true, o := false }, { c := (Tapi_Source.enc x_1), e := 66, ext := false, fz := 0, pl := true, o := false }, { c := (fl Tapi_Fact.enc (b2 ++ [(⟨([114, 101, 106, 101, 99, 116] : List UInt8), r24, x19.Why⟩ : Tapi_Fact)])), e := 81, ext := true, fz := 0, pl := true, o := true }]) :=
  Does.of_viewM 2 400 (cs 5 ((.op none .a) :: (.br true) :: (cs 4 ((.op none (.i k7)) :: (.op none .c) :: (.op none (.v [.str x19.D.Device, .int .i64 x19.D.Seq, .int .i64 x19.D.Time, .str x19.D.Tag, .str x19.D.Plate, .int .i64 x19.D.Axles, .int .i64 x19.D.Score])) :: (.op none .c) :: (.ret none [.agg (Tapi_Detection.enc x19.D), .agg (Tapi_Source.enc x_1)] (.bool r21) []) :: (.br true) :: (cs 2 ((.ret none [.agg (Tapi_Source.enc x_1)] (.str r24) []) :: (cs 4 ((.op none (.i k7)) :: (.op none .c) :: (.op none (.v [.int .i64 x19.Why])) :: (cs 2 ((.op none (.ap 4)) :: (.trp (.eqc 4 (fl Tapi_Fact.enc (b2 ++ [(⟨([114, 101, 106, 101, 99, 116] : List UInt8), r24, x19.Why⟩ : Tapi_Fact)])))) :: (.trp (.eqt (.t 49) (.vec 4 ((b2 ++ [(⟨([114, 101, 106, 101, 99, 116] : List UInt8), r24, x19.Why⟩ : Tapi_Fact)]).length) 3))) :: (cs 2 [.op none .w, .op none .c]))))))))))) [0, 1, 4] (ps := [((decide ((↑k7 : Int) < (↑s_0.Result.Rejects.length : Int))) = true), ((↑k7 : Int) = ((k7 : Nat) : Int) ∧ k7 < s_0.Result.Rejects.length), ((fl Tapi_Reject.enc s_0.Result.Rejects) ≠ []), (sub (fl Tapi_Reject.enc s_0.Result.Rejects) (k7 * 8) 7 = [.str x19.D.Device, .int .i64 x19.D.Seq, .int .i64 x19.D.Time, .str x19.D.Tag, .str x19.D.Plate, .int .i64 x19.D.Axles, .int .i64 x19.D.Score]), ((.agg (Tapi_Detection.enc x19.D) : AV) = .agg (Tapi_Detection.enc x19.D)), ((.agg (Tapi_Source.enc x_1) : AV) = .agg (Tapi_Source.enc x_1)), (Ret Tryd.prog GT 27 [.agg (Tapi_Detection.enc x19.D), .agg (Tapi_Source.enc x_1)] (.bool r21) []), (r21 = true), ((.agg (Tapi_Source.enc x_1) : AV) = .agg (Tapi_Source.enc x_1)), (Ret Tryd.prog GT 26 [.agg (Tapi_Source.enc x_1)] (.str r24) []), ((↑k7 : Int) = ((k7 : Nat) : Int) ∧ k7 < s_0.Result.Rejects.length), ((fl Tapi_Reject.enc s_0.Result.Rejects) ≠ []), (sub (fl Tapi_Reject.enc s_0.Result.Rejects) ((k7 * 8) + 7) 1 = [.int .i64 x19.Why]), (0 + 3 ≤ List.length ([.str [114, 101, 106, 101, 99, 116], .str r24, .int .i64 x19.Why] : List AV)), (List.length ((fl Tapi_Fact.enc b2) : List AV) = (b2.length * 3)), (List.all ([.str [114, 101, 106, 101, 99, 116], .str r24, .int .i64 x19.Why] : List AV) AV.one = true), (b2.length + 1 ≤ 4294967296), ((fl Tapi_Fact.enc b2) ++ [.str [114, 101, 106, 101, 99, 116], .str r24, .int .i64 x19.Why] = (fl Tapi_Fact.enc (b2 ++ [(⟨([114, 101, 106, 101, 99, 116] : List UInt8), r24, x19.Why⟩ : Tapi_Fact)]))), ((.vec 4 (b2.length + 1) 3 : AV) = .vec 4 ((b2 ++ [(⟨([114, 101, 106, 101, 99, 116] : List UInt8), r24, x19.Why⟩ : Tapi_Fact)]).length) 3), ((some (Ob.blk { c := [.str [114, 101, 106, 101, 99, 116], .str r24, .int .i64 x19.Why], e := 81, ext := false, fz := 0, pl := true, o := false }) = some (Ob.blk { c := [.str [114, 101, 106, 101, 99, 116], .str r24, .int .i64 x19.Why], e := 81, ext := false, fz := 0, pl := true, o := false })) ∧ True), (IntKind.min .i64 ≤ ((↑k7 : Int) + 1) ∧ ((↑k7 : Int) + 1) ≤ IntKind.max .i64)]) (by kernel_rfl) (by kernel_rfl) ⟨(decide_eq_true c18), ⟨rfl, get_lt h20⟩, (fl_ne (f := Tapi_Reject.enc) (z := 7) (fun _ => rfl) h20), (fl_sub (f := Tapi_Reject.enc) (z := 8) (j := k7) (a := 0) (n := 7) (fun _ => rfl) h20 (by decide) rfl), rfl, rfl, (tollwayref52_is_ret x19.D x_1 r21 h22), c23, rfl, (tollwayref52_key_ret x_1 r24 h25), ⟨rfl, get_lt h20⟩, (fl_ne (f := Tapi_Reject.enc) (z := 7) (fun _ => rfl) h20), (fl_sub (f := Tapi_Reject.enc) (z := 8) (j := k7) (a := 7) (n := 1) (fun _ => rfl) h20 (by decide) rfl), (Nat.le_of_ble_eq_true rfl), (fl_length (f := Tapi_Fact.enc) (z := 3) (fun _ => rfl) _), rfl, h26, (fl_snoc rfl), (by simp <;> omega), ⟨rfl, trivial⟩, ok1 h27⟩
theorem tollwayref52_Detection_L6_1 (s_0 : Tapi_State) (x_1 : Tapi_Source) (k7 : Nat) (b2 : (List Tapi_Fact)) (c18 : (↑k7 : Int) < (↑s_0.Result.Rejects.length : Int)) (x19 : Tapi_Reject) (h20 : s_0.Result.Rejects[k7]? = some x19) (r21 : Bool) (h22 : tollwayref52_is x19.D x_1 = some r21) (c23 : ¬ (r21 = true)) (h28 : InR .i64 ((↑k7 : Int) + 1)) : Does Tryd.prog GT 2 (bodyAt Tryd.prog 10 [1, 1, 1, 0, 1, 0, 0]) (tollwayref52_Detection_L6_H s_0 x_1 (k7, b2)) .normal (S 90 [(2, .ptr 0 0), (3, .ptr 1 0), (6, .vec 2 b2.length 3), (7, .int .i64 ((↑k7 : Int) + 1))] [{ c := (Tapi_State.enc s_0), e := 64, ext := false, fz := 0, pl := true, o := false }, { c := (Tapi_Source.enc x_1), e := 66, ext := false, fz := 0, pl := true, o := false }, { c := (fl Tapi_Fact.enc b2), e := 81, ext := true, fz := 0, pl := true, o := true }]) :=
  Does.of_viewM 2 400 (cs 5 ((.op none .a) :: (.br true) :: (cs 4 [.op none (.i k7), .op none .c, .op none (.v [.str x19.D.Device, .int .i64 x19.D.Seq, .int .i64 x19.D.Time, .str x19.D.Tag, .str x19.D.Plate, .int .i64 x19.D.Axles, .int .i64 x19.D.Score]), .op none .c, .ret none [.agg (Tapi_Detection.enc x19.D), .agg (Tapi_Source.enc x_1)] (.bool r21) [], .br false, .op none .c, .op none .w, .op none .c]))) [0, 1, 2] (ps := [((decide ((↑k7 : Int) < (↑s_0.Result.Rejects.length : Int))) = true), ((↑k7 : Int) = ((k7 : Nat) : Int) ∧ k7 < s_0.Result.Rejects.length), ((fl Tapi_Reject.enc s_0.Result.Rejects) ≠ []), (sub (fl Tapi_Reject.enc s_0.Result.Rejects) (k7 * 8) 7 = [.str x19.D.Device, .int .i64 x19.D.Seq, .int .i64 x19.D.Time, .str x19.D.Tag, .str x19.D.Plate, .int .i64 x19.D.Axles, .int .i64 x19.D.Score]), ((.agg (Tapi_Detection.enc x19.D) : AV) = .agg (Tapi_Detection.enc x19.D)), ((.agg (Tapi_Source.enc x_1) : AV) = .agg (Tapi_Source.enc x_1)), (Ret Tryd.prog GT 27 [.agg (Tapi_Detection.enc x19.D), .agg (Tapi_Source.enc x_1)] (.bool r21) []), (r21 = false), (IntKind.min .i64 ≤ ((↑k7 : Int) + 1) ∧ ((↑k7 : Int) + 1) ≤ IntKind.max .i64)]) (by kernel_rfl) (by kernel_rfl) ⟨(decide_eq_true c18), ⟨rfl, get_lt h20⟩, (fl_ne (f := Tapi_Reject.enc) (z := 7) (fun _ => rfl) h20), (fl_sub (f := Tapi_Reject.enc) (z := 8) (j := k7) (a := 0) (n := 7) (fun _ => rfl) h20 (by decide) rfl), rfl, rfl, (tollwayref52_is_ret x19.D x_1 r21 h22), (eq_false_of_ne_true c23), ok1 h28⟩
theorem tollwayref52_Detection_L6_2 (s_0 : Tapi_State) (x_1 : Tapi_Source) (k7 : Nat) (b2 : (List Tapi_Fact)) (c18 : ¬ ((↑k7 : Int) < (↑s_0.Result.Rejects.length : Int))) : Does Tryd.prog GT 2 (bodyAt Tryd.prog 10 [1, 1, 1, 0, 1, 0, 0]) (tollwayref52_Detection_L6_H s_0 x_1 (k7, b2)) (.exit 0) (S 90 [(2, .ptr 0 0), (3, .ptr 1 0), (6, .vec 2 b2.length 3)] [{ c := (Tapi_State.enc s_0), e := 64, ext := false, fz := 0, pl := true, o := false }, { c := (Tapi_Source.enc x_1), e := 66, ext := false, fz := 0, pl := true, o := false }, { c := (fl Tapi_Fact.enc b2), e := 81, ext := true, fz := 0, pl := true, o := true }]) :=
  Does.of_viewM 2 400 (cs 5 [.op none .a, .br false]) [0, 1, 2] (ps := [((decide ((↑k7 : Int) < (↑s_0.Result.Rejects.length : Int))) = false)]) (by kernel_rfl) (by kernel_rfl) (ok1 (decide_eq_false c18))
def tollwayref52_Detection_L6_X (s_0 : Tapi_State) (x_1 : Tapi_Source) : (List Tapi_Fact) → AEx := fun o => (.exit 0)
def tollwayref52_Detection_L6_E (s_0 : Tapi_State) (x_1 : Tapi_Source) : (List Tapi_Fact) → St := fun o => S 90 [(2, .ptr 0 0), (3, .ptr 1 0), (6, .vec 2 o.length 3)] [{ c := (Tapi_State.enc s_0), e := 64, ext := false, fz := 0, pl := true, o := false }, { c := (Tapi_Source.enc x_1), e := 66, ext := false, fz := 0, pl := true, o := false }, { c := (fl Tapi_Fact.enc o), e := 81, ext := true, fz := 0, pl := true, o := true }]
theorem tollwayref52_Detection_L6_does (s_0 : Tapi_State) (x_1 : Tapi_Source) {s : (Nat × (List Tapi_Fact))} {r : (List Tapi_Fact)} (h : lp (tollwayref52_Detection_L6_step s_0 x_1) s = some r) : Does Tryd.prog GT 2 (.loop (bodyAt Tryd.prog 10 [1, 1, 1, 0, 1, 0, 0])) (tollwayref52_Detection_L6_H s_0 x_1 s) (tollwayref52_Detection_L6_X s_0 x_1 r) (tollwayref52_Detection_L6_E s_0 x_1 r) := by
  refine Does.lp (H := tollwayref52_Detection_L6_H s_0 x_1) (X := tollwayref52_Detection_L6_X s_0 x_1) (E := tollwayref52_Detection_L6_E s_0 x_1) (fun s s2 h => ?_) (fun s r h => ?_) h
  · obtain ⟨k7, b2⟩ := s
    unfold tollwayref52_Detection_L6_step at h
    try dsimp only at h
    rcases ite_some h with ⟨c18, h⟩ | ⟨c18, h⟩
    · obtain ⟨x19, h20, h⟩ := bind_some h
      obtain ⟨r21, h22, h⟩ := bind_some h
      rcases ite_some h with ⟨c23, h⟩ | ⟨c23, h⟩
      · obtain ⟨r24, h25, h⟩ := bind_some h
        obtain ⟨h26, h⟩ := guard_some h
        obtain ⟨h27, h⟩ := guard_some h
        simp only [Option.some.injEq, Sum.inl.injEq] at h
        subst h
        have hq := tollwayref52_Detection_L6_0 s_0 x_1 k7 b2 c18 x19 h20 r21 h22 c23 r24 h25 h26 h27
        first | exact hq | exact Eq.mp (by simp only [tollwayref52_Detection_L6_H, List.length_set] <;> rfl) hq
      · obtain ⟨h28, h⟩ := guard_some h
        simp only [Option.some.injEq, Sum.inl.injEq] at h
        subst h
        have hq := tollwayref52_Detection_L6_1 s_0 x_1 k7 b2 c18 x19 h20 r21 h22 c23 h28
        first | exact hq | exact Eq.mp (by simp only [tollwayref52_Detection_L6_H, List.length_set] <;> rfl) hq
    · simp at h
  · obtain ⟨k7, b2⟩ := s
    unfold tollwayref52_Detection_L6_step at h
    try dsimp only at h
    rcases ite_some h with ⟨c18, h⟩ | ⟨c18, h⟩
    · obtain ⟨x19, h20, h⟩ := bind_some h
      obtain ⟨r21, h22, h⟩ := bind_some h
      rcases ite_some h with ⟨c23, h⟩ | ⟨c23, h⟩
      · obtain ⟨r24, h25, h⟩ := bind_some h
        obtain ⟨h26, h⟩ := guard_some h
        obtain ⟨h27, h⟩ := guard_some h
        simp at h
      · obtain ⟨h28, h⟩ := guard_some h
        simp at h
    · simp only [Option.some.injEq, Sum.inr.injEq] at h
      subst h
      exact ⟨tollwayref52_Detection_L6_2 s_0 x_1 k7 b2 c18, by intro q; cases q⟩
noncomputable def tollwayref52_Detection_L55_step (s_0 : Tapi_State) (x_1 : Tapi_Source) (k8 : Nat) (b5 : (List Tapi_Fact)) (x53 : Tapi_Passage) : (Bool × Nat) → Option ((Bool × Nat) ⊕ Bool)
  | (v10, k11) =>
    if (↑k11 : Int) < (↑x53.Sources.length : Int) then
      if v10 = true then
        if InR .i64 ((↑k11 : Int) + 1) then
          some (Sum.inl (true, (k11 + 1)))
        else none
      else
        (x53.Sources[k11]?).bind fun x65 =>
        if InR .i64 ((↑k11 : Int) + 1) then
          some (Sum.inl (((x65.Device == x_1.Device) && ((x65.Seq == x_1.Seq) && true)), (k11 + 1)))
        else none
    else
      some (Sum.inr v10)
def tollwayref52_Detection_L55_H (s_0 : Tapi_State) (x_1 : Tapi_Source) (k8 : Nat) (b5 : (List Tapi_Fact)) (x53 : Tapi_Passage) : (Bool × Nat) → St := fun (s : (Bool × Nat)) => S 90 [(2, .ptr 0 0), (3, .ptr 1 0), (6, .vec 2 b5.length 3), (8, .int .i64 (↑k8 : Int)), (9, .ptr 3 0), (10, .bool s.1), (11, .int .i64 (↑s.2 : Int))] [{ c := (Tapi_State.enc s_0), e := 64, ext := false, fz := 0, pl := true, o := false }, { c := (Tapi_Source.enc x_1), e := 66, ext := false, fz := 0, pl := true, o := false }, { c := (fl Tapi_Fact.enc b5), e := 81, ext := true, fz := 0, pl := true, o := true }, { c := (Tapi_Passage.enc x53), e := 87, ext := false, fz := 0, pl := true, o := false }]
theorem tollwayref52_Detection_L55_0 (s_0 : Tapi_State) (x_1 : Tapi_Source) (k8 : Nat) (b5 : (List Tapi_Fact)) (x53 : Tapi_Passage) (v10 : Bool) (k11 : Nat) (c62 : (↑k11 : Int) < (↑x53.Sources.length : Int)) (c63 : v10 = true) (h64 : InR .i64 ((↑k11 : Int) + 1)) : Does Tryd.prog GT 4 (bodyAt Tryd.prog 10 [1, 1, 1, 1, 0, 1, 0, 0, 1, 0, 0, 1, 1, 0, 1, 0, 0]) (tollwayref52_Detection_L55_H s_0 x_1 k8 b5 x53 (v10, k11)) .normal (S 90 [(2, .ptr 0 0), (3, .ptr 1 0), (6, .vec 2 b5.length 3), (8, .int .i64 (↑k8 : Int)), (9, .ptr 3 0), (10, .bool true), (11, .int .i64 ((↑k11 : Int) + 1))] [{ c := (Tapi_State.enc s_0), e := 64, ext := false, fz := 0, pl := true, o := false }, { c := (Tapi_Source.enc x_1), e := 66, ext := false, fz := 0, pl := true, o := false }, { c := (fl Tapi_Fact.enc b5), e := 81, ext := true, fz := 0, pl := true, o := true }, { c := (Tapi_Passage.enc x53), e := 87, ext := false, fz := 0, pl := true, o := false }]) :=
  Does.of_viewM 4 400 (cs 4 ((.op none .a) :: (.br true) :: (cs 2 ((.op (some true) .c) :: (.op (some true) .c) :: (.op (some true) .c) :: (.op (some true) .c) :: (.op (some true) .c) :: (.op (some true) .c) :: (.op (some true) .c) :: (.op none (.b true)) :: (cs 2 [.op none .w, .op none .c]))))) [0, 1, 2, 3] (ps := [((decide ((↑k11 : Int) < (↑x53.Sources.length : Int))) = true), (v10 = true), (v10 = true), (v10 = true), (v10 = true), (v10 = true), (v10 = true), (v10 = true), (v10 = true), (IntKind.min .i64 ≤ ((↑k11 : Int) + 1) ∧ ((↑k11 : Int) + 1) ≤ IntKind.max .i64)]) (by kernel_rfl) (by kernel_rfl) ⟨(decide_eq_true c62), c63, c63, c63, c63, c63, c63, c63, c63, ok1 h64⟩
theorem tollwayref52_Detection_L55_1 (s_0 : Tapi_State) (x_1 : Tapi_Source) (k8 : Nat) (b5 : (List Tapi_Fact)) (x53 : Tapi_Passage) (v10 : Bool) (k11 : Nat) (c62 : (↑k11 : Int) < (↑x53.Sources.length : Int)) (c63 : ¬ (v10 = true)) (x65 : Tapi_Source) (h66 : x53.Sources[k11]? = some x65) (h67 : InR .i64 ((↑k11 : Int) + 1)) : Does Tryd.prog GT 4 (bodyAt Tryd.prog 10 [1, 1, 1, 1, 0, 1, 0, 0, 1, 0, 0, 1, 1, 0, 1, 0, 0]) (tollwayref52_Detection_L55_H s_0 x_1 k8 b5 x53 (v10, k11)) .normal (S 90 [(2, .ptr 0 0), (3, .ptr 1 0), (6, .vec 2 b5.length 3), (8, .int .i64 (↑k8 : Int)), (9, .ptr 3 0), (10, .bool ((x65.Device == x_1.Device) && ((x65.Seq == x_1.Seq) && true))), (11, .int .i64 ((↑k11 : Int) + 1))] [{ c := (Tapi_State.enc s_0), e := 64, ext := false, fz := 0, pl := true, o := false }, { c := (Tapi_Source.enc x_1), e := 66, ext := false, fz := 0, pl := true, o := false }, { c := (fl Tapi_Fact.enc b5), e := 81, ext := true, fz := 0, pl := true, o := true }, { c := (Tapi_Passage.enc x53), e := 87, ext := false, fz := 0, pl := true, o := false }]) :=
  Does.of_viewM 4 400 (cs 4 ((.op none .a) :: (.br true) :: (cs 2 ((.op (some false) .c) :: (.op (some false) .c) :: (.op (some false) .c) :: (.op (some false) (.i k11)) :: (.op (some false) (.v [.str x65.Device, .int .i64 x65.Seq])) :: (.op (some false) .c) :: (.op (some false) .c) :: (.op none (.b false)) :: (cs 2 [.op none .w, .op none .c]))))) [0, 1, 2, 3] (ps := [((decide ((↑k11 : Int) < (↑x53.Sources.length : Int))) = true), (v10 = false), (v10 = false), (v10 = false), (v10 = false), ((↑k11 : Int) = ((k11 : Nat) : Int) ∧ k11 < x53.Sources.length), ((fl Tapi_Source.enc x53.Sources) ≠ []), (v10 = false), (sub (fl Tapi_Source.enc x53.Sources) (k11 * 2) 2 = [.str x65.Device, .int .i64 x65.Seq]), (v10 = false), (v10 = false), (v10 = false), (IntKind.min .i64 ≤ ((↑k11 : Int) + 1) ∧ ((↑k11 : Int) + 1) ≤ IntKind.max .i64)]) (by kernel_rfl) (by kernel_rfl) ⟨(decide_eq_true c62), (eq_false_of_ne_true c63), (eq_false_of_ne_true c63), (eq_false_of_ne_true c63), (eq_false_of_ne_true c63), ⟨rfl, get_lt h66⟩, (fl_ne (f := Tapi_Source.enc) (z := 1) (fun _ => rfl) h66), (eq_false_of_ne_true c63), (fl_sub0 (f := Tapi_Source.enc) (z := 2) (j := k11) (fun _ => rfl) h66 rfl), (eq_false_of_ne_true c63), (eq_false_of_ne_true c63), (eq_false_of_ne_true c63), ok1 h67⟩
theorem tollwayref52_Detection_L55_2 (s_0 : Tapi_State) (x_1 : Tapi_Source) (k8 : Nat) (b5 : (List Tapi_Fact)) (x53 : Tapi_Passage) (v10 : Bool) (k11 : Nat) (c62 : ¬ ((↑k11 : Int) < (↑x53.Sources.length : Int))) : Does Tryd.prog GT 4 (bodyAt Tryd.prog 10 [1, 1, 1, 1, 0, 1, 0, 0, 1, 0, 0, 1, 1, 0, 1, 0, 0]) (tollwayref52_Detection_L55_H s_0 x_1 k8 b5 x53 (v10, k11)) (.exit 4) (S 90 [(2, .ptr 0 0), (3, .ptr 1 0), (6, .vec 2 b5.length 3), (8, .int .i64 (↑k8 : Int)), (9, .ptr 3 0), (10, .bool v10)] [{ c := (Tapi_State.enc s_0), e := 64, ext := false, fz := 0, pl := true, o := false }, { c := (Tapi_Source.enc x_1), e := 66, ext := false, fz := 0, pl := true, o := false }, { c := (fl Tapi_Fact.enc b5), e := 81, ext := true, fz := 0, pl := true, o := true }, { c := (Tapi_Passage.enc x53), e := 87, ext := false, fz := 0, pl := true, o := false }]) :=
  Does.of_viewM 4 400 (cs 4 [.op none .a, .br false]) [0, 1, 2, 3] (ps := [((decide ((↑k11 : Int) < (↑x53.Sources.length : Int))) = false)]) (by kernel_rfl) (by kernel_rfl) (ok1 (decide_eq_false c62))
def tollwayref52_Detection_L55_X (s_0 : Tapi_State) (x_1 : Tapi_Source) (k8 : Nat) (b5 : (List Tapi_Fact)) (x53 : Tapi_Passage) : Bool → AEx := fun o => (.exit 4)
def tollwayref52_Detection_L55_E (s_0 : Tapi_State) (x_1 : Tapi_Source) (k8 : Nat) (b5 : (List Tapi_Fact)) (x53 : Tapi_Passage) : Bool → St := fun o => S 90 [(2, .ptr 0 0), (3, .ptr 1 0), (6, .vec 2 b5.length 3), (8, .int .i64 (↑k8 : Int)), (9, .ptr 3 0), (10, .bool o)] [{ c := (Tapi_State.enc s_0), e := 64, ext := false, fz := 0, pl := true, o := false }, { c := (Tapi_Source.enc x_1), e := 66, ext := false, fz := 0, pl := true, o := false }, { c := (fl Tapi_Fact.enc b5), e := 81, ext := true, fz := 0, pl := true, o := true }, { c := (Tapi_Passage.enc x53), e := 87, ext := false, fz := 0, pl := true, o := false }]
theorem tollwayref52_Detection_L55_does (s_0 : Tapi_State) (x_1 : Tapi_Source) (k8 : Nat) (b5 : (List Tapi_Fact)) (x53 : Tapi_Passage) {s : (Bool × Nat)} {r : Bool} (h : lp (tollwayref52_Detection_L55_step s_0 x_1 k8 b5 x53) s = some r) : Does Tryd.prog GT 4 (.loop (bodyAt Tryd.prog 10 [1, 1, 1, 1, 0, 1, 0, 0, 1, 0, 0, 1, 1, 0, 1, 0, 0])) (tollwayref52_Detection_L55_H s_0 x_1 k8 b5 x53 s) (tollwayref52_Detection_L55_X s_0 x_1 k8 b5 x53 r) (tollwayref52_Detection_L55_E s_0 x_1 k8 b5 x53 r) := by
  refine Does.lp (H := tollwayref52_Detection_L55_H s_0 x_1 k8 b5 x53) (X := tollwayref52_Detection_L55_X s_0 x_1 k8 b5 x53) (E := tollwayref52_Detection_L55_E s_0 x_1 k8 b5 x53) (fun s s2 h => ?_) (fun s r h => ?_) h
  · obtain ⟨v10, k11⟩ := s
    unfold tollwayref52_Detection_L55_step at h
    try dsimp only at h
    rcases ite_some h with ⟨c62, h⟩ | ⟨c62, h⟩
    · rcases ite_some h with ⟨c63, h⟩ | ⟨c63, h⟩
      · obtain ⟨h64, h⟩ := guard_some h
        simp only [Option.some.injEq, Sum.inl.injEq] at h
        subst h
        have hq := tollwayref52_Detection_L55_0 s_0 x_1 k8 b5 x53 v10 k11 c62 c63 h64
        first | exact hq | exact Eq.mp (by simp only [tollwayref52_Detection_L55_H, List.length_set] <;> rfl) hq
      · obtain ⟨x65, h66, h⟩ := bind_some h
        obtain ⟨h67, h⟩ := guard_some h
        simp only [Option.some.injEq, Sum.inl.injEq] at h
        subst h
        have hq := tollwayref52_Detection_L55_1 s_0 x_1 k8 b5 x53 v10 k11 c62 c63 x65 h66 h67
        first | exact hq | exact Eq.mp (by simp only [tollwayref52_Detection_L55_H, List.length_set] <;> rfl) hq
    · simp at h
  · obtain ⟨v10, k11⟩ := s
    unfold tollwayref52_Detection_L55_step at h
    try dsimp only at h
    rcases ite_some h with ⟨c62, h⟩ | ⟨c62, h⟩
    · rcases ite_some h with ⟨c63, h⟩ | ⟨c63, h⟩
      · obtain ⟨h64, h⟩ := guard_some h
        simp at h
      · obtain ⟨x65, h66, h⟩ := bind_some h
        obtain ⟨h67, h⟩ := guard_some h
        simp at h
    · simp only [Option.some.injEq, Sum.inr.injEq] at h
      subst h
      exact ⟨tollwayref52_Detection_L55_2 s_0 x_1 k8 b5 x53 v10 k11 c62, by intro q; cases q⟩
noncomputable def tollwayref52_Detection_L29_step (s_0 : Tapi_State) (x_1 : Tapi_Source) : (Nat × (List Tapi_Fact)) → Option ((Nat × (List Tapi_Fact)) ⊕ (List Tapi_Fact))
  | (k8, b5) =>
    if (↑k8 : Int) < (↑s_0.Result.Passages.length : Int) then
      (s_0.Result.Passages[k8]?).bind fun x53 =>
      (lp (tollwayref52_Detection_L55_step s_0 x_1 k8 b5 x53) (false, (0 : Nat))).bind fun o55 =>
      if o55 = true then
        (tollwayref52_facts s_0.Result x53.ID).bind fun r69 =>
        if b5.length + r69.length ≤ 4294967296 then
          if InR .i64 ((↑k8 : Int) + 1) then
            some (Sum.inl ((k8 + 1), (b5 ++ r69)))
          else none
        else none
      else
        if InR .i64 ((↑k8 : Int) + 1) then
          some (Sum.inl ((k8 + 1), b5))
        else none
    else
      some (Sum.inr b5)
def tollwayref52_Detection_L29_H (s_0 : Tapi_State) (x_1 : Tapi_Source) : (Nat × (List Tapi_Fact)) → St := fun (s : (Nat × (List Tapi_Fact))) => S 90 [(2, .ptr 0 0), (3, .ptr 1 0), (6, .vec 2 s.2.length 3), (8, .int .i64 (↑s.1 : Int))] [{ c := (Tapi_State.enc s_0), e := 64, ext := false, fz := 0, pl := true, o := false }, { c := (Tapi_Source.enc x_1), e := 66, ext := false, fz := 0, pl := true, o := false }, { c := (fl Tapi_Fact.enc s.2), e := 81, ext := true, fz := 0, pl := true, o := true }]
theorem tollwayref52_Detection_L29_0 (s_0 : Tapi_State) (x_1 : Tapi_Source) (k8 : Nat) (b5 : (List Tapi_Fact)) (c52 : (↑k8 : Int) < (↑s_0.Result.Passages.length : Int)) (x53 : Tapi_Passage) (h54 : s_0.Result.Passages[k8]? = some x53) (o55 : Bool) (hl55 : lp (tollwayref52_Detection_L55_step s_0 x_1 k8 b5 x53) (false, (0 : Nat)) = some o55) (c68 : o55 = true) (r69 : (List Tapi_Fact)) (h70 : tollwayref52_facts s_0.Result x53.ID = some r69) (h71 : b5.length + r69.length ≤ 4294967296) (h72 : InR .i64 ((↑k8 : Int) + 1)) : Does Tryd.prog GT 2 (bodyAt Tryd.prog 10 [1, 1, 1, 1, 0, 1, 0, 0]) (tollwayref52_Detection_L29_H s_0 x_1 (k8, b5)) .normal (S 90 [(2, .ptr 0 0), (3, .ptr 1 0), (6, .vec 2 ((b5 ++ r69).length) 3), (8, .int .i64 ((↑k8 : Int) + 1))] [{ c := (Tapi_State.enc s_0), e := 64, ext := false, fz := 0, pl := true, o := false }, { c := (Tapi_Source.enc x_1), e := 66, ext := false, fz := 0, pl := true, o := false }, { c := (fl Tapi_Fact.enc (b5 ++ r69)), e := 81, ext := true, fz := 0, pl := true, o := true }]) :=
  Does.of_viewM 2 400 (cs 5 ((.op none .a) :: (.br true) :: (cs 4 ((.op none (.i k8)) :: (.op none (.v [.str x53.ID, .str x53.Point, .int .i64 x53.Time, .str x53.Tag, .str x53.Plate, .int .i64 x53.Class, .int .i64 x53.Score, .lst (fl Tapi_Source.enc x53.Sources) x53.Sources.length])) :: (cs 4 ((.fcut 4 (.exit 4) [(2, .ptr 0 0), (3, .ptr 1 0), (6, .vec 2 b5.length 3), (8, .int .i64 (↑k8 : Int)), (9, .ptr 3 0), (10, .bool o55)] [{ c := (Tapi_State.enc s_0), e := 64, ext := false, fz := 0, pl := true, o := false }, { c := (Tapi_Source.enc x_1), e := 66, ext := false, fz := 0, pl := true, o := false }, { c := (fl Tapi_Fact.enc b5), e := 81, ext := true, fz := 0, pl := true, o := true }, { c := (Tapi_Passage.enc x53), e := 87, ext := false, fz := 0, pl := true, o := false }] [0, 1, 2, 3] [(2, .ptr 0 0), (3, .ptr 1 0), (6, .vec 2 b5.length 3), (8, .int .i64 (↑k8 : Int)), (9, .ptr 3 0), (10, .bool false), (11, .int .i64 (↑(0 : Nat) : Int))] [{ c := (Tapi_State.enc s_0), e := 64, ext := false, fz := 0, pl := true, o := false }, { c := (Tapi_Source.enc x_1), e := 66, ext := false, fz := 0, pl := true, o := false }, { c := (fl Tapi_Fact.enc b5), e := 81, ext := true, fz := 0, pl := true, o := true }, { c := (Tapi_Passage.enc x53), e := 87, ext := false, fz := 0, pl := true, o := false }]) :: (.op none .c) :: (.br true) :: (cs 5 ((.ret none [.agg (Tapi_Result.enc s_0.Result), .str x53.ID] (.vec 0 r69.length 3) [{ c := (fl Tapi_Fact.enc r69), e := 81, ext := true, fz := 0, pl := true, o := true }]) :: (.op none (.ap 4)) :: (.tr (.eqc 9 (fl Tapi_Fact.enc (b5 ++ r69)))) :: (.tr (.eqt (.t 88) (.vec 9 ((b5 ++ r69).length) 3))) :: (cs 2 [.op none .w, .op none .c]))))))))) [0, 1, 9] (ps := [((decide ((↑k8 : Int) < (↑s_0.Result.Passages.length : Int))) = true), ((↑k8 : Int) = ((k8 : Nat) : Int) ∧ k8 < s_0.Result.Passages.length), ((fl Tapi_Passage.enc s_0.Result.Passages) ≠ []), (sub (fl Tapi_Passage.enc s_0.Result.Passages) (k8 * 8) 8 = [.str x53.ID, .str x53.Point, .int .i64 x53.Time, .str x53.Tag, .str x53.Plate, .int .i64 x53.Class, .int .i64 x53.Score, .lst (fl Tapi_Source.enc x53.Sources) x53.Sources.length]), ((.ptr 0 0 : AV) = .ptr 0 0), ((.ptr 1 0 : AV) = .ptr 1 0), ((.vec 2 b5.length 3 : AV) = .vec 2 b5.length 3), ((.int .i64 (↑k8 : Int) : AV) = .int .i64 (↑k8 : Int)), ((.ptr 3 0 : AV) = .ptr 3 0), ((.bool false : AV) = .bool false), ((.int .i64 0 : AV) = .int .i64 (↑(0 : Nat) : Int)), (({ c := (Tapi_State.enc s_0), e := 64, ext := false, fz := 0, pl := true, o := false } : Blk) = renB [0, 1, 2, 3] { c := (Tapi_State.enc s_0), e := 64, ext := false, fz := 0, pl := true, o := false }), (({ c := (Tapi_Source.enc x_1), e := 66, ext := false, fz := 0, pl := true, o := false } : Blk) = renB [0, 1, 2, 3] { c := (Tapi_Source.enc x_1), e := 66, ext := false, fz := 0, pl := true, o := false }), (({ c := (fl Tapi_Fact.enc b5), e := 81, ext := true, fz := 0, pl := true, o := true } : Blk) = renB [0, 1, 2, 3] { c := (fl Tapi_Fact.enc b5), e := 81, ext := true, fz := 0, pl := true, o := true }), (({ c := (Tapi_Passage.enc x53), e := 87, ext := false, fz := 0, pl := true, o := false } : Blk) = renB [0, 1, 2, 3] { c := (Tapi_Passage.enc x53), e := 87, ext := false, fz := 0, pl := true, o := false }), (Does Tryd.prog GT 4 (.loop (bodyAt Tryd.prog 10 [1, 1, 1, 1, 0, 1, 0, 0, 1, 0, 0, 1, 1, 0, 1, 0, 0])) (S 90 [(2, .ptr 0 0), (3, .ptr 1 0), (6, .vec 2 b5.length 3), (8, .int .i64 (↑k8 : Int)), (9, .ptr 3 0), (10, .bool false), (11, .int .i64 (↑(0 : Nat) : Int))] [{ c := (Tapi_State.enc s_0), e := 64, ext := false, fz := 0, pl := true, o := false }, { c := (Tapi_Source.enc x_1), e := 66, ext := false, fz := 0, pl := true, o := false }, { c := (fl Tapi_Fact.enc b5), e := 81, ext := true, fz := 0, pl := true, o := true }, { c := (Tapi_Passage.enc x53), e := 87, ext := false, fz := 0, pl := true, o := false }]) (.exit 4) (S 90 [(2, .ptr 0 0), (3, .ptr 1 0), (6, .vec 2 b5.length 3), (8, .int .i64 (↑k8 : Int)), (9, .ptr 3 0), (10, .bool o55)] [{ c := (Tapi_State.enc s_0), e := 64, ext := false, fz := 0, pl := true, o := false }, { c := (Tapi_Source.enc x_1), e := 66, ext := false, fz := 0, pl := true, o := false }, { c := (fl Tapi_Fact.enc b5), e := 81, ext := true, fz := 0, pl := true, o := true }, { c := (Tapi_Passage.enc x53), e := 87, ext := false, fz := 0, pl := true, o := false }])), (o55 = true), ((.agg (Tapi_Result.enc s_0.Result) : AV) = .agg (Tapi_Result.enc s_0.Result)), ((.str x53.ID : AV) = .str x53.ID), (Ret Tryd.prog GT 28 [.agg (Tapi_Result.enc s_0.Result), .str x53.ID] (.vec 0 r69.length 3) [{ c := (fl Tapi_Fact.enc r69), e := 81, ext := true, fz := 0, pl := true, o := true }]), (List.length ((fl Tapi_Fact.enc r69) : List AV) = (r69.length * 3)), (List.length ((fl Tapi_Fact.enc b5) : List AV) = (b5.length * 3)), (List.all ((fl Tapi_Fact.enc r69) : List AV) AV.one = true), (b5.length + r69.length ≤ 4294967296), ((fl Tapi_Fact.enc b5) ++ (fl Tapi_Fact.enc r69) = (fl Tapi_Fact.enc (b5 ++ r69))), ((.vec 9 (b5.length + r69.length) 3 : AV) = .vec 9 ((b5 ++ r69).length) 3), (IntKind.min .i64 ≤ ((↑k8 : Int) + 1) ∧ ((↑k8 : Int) + 1) ≤ IntKind.max .i64)]) (by kernel_rfl) (by kernel_rfl) ⟨(decide_eq_true c52), ⟨rfl, get_lt h54⟩, (fl_ne (f := Tapi_Passage.enc) (z := 7) (fun _ => rfl) h54), (fl_sub0 (f := Tapi_Passage.enc) (z := 8) (j := k8) (fun _ => rfl) h54 rfl), rfl, rfl, rfl, rfl, rfl, rfl, rfl, rfl, rfl, rfl, rfl, (tollwayref52_Detection_L55_does s_0 x_1 k8 b5 x53 hl55), c68, rfl, rfl, (tollwayref52_facts_ret s_0.Result x53.ID r69 h70), (fl_length (f := Tapi_Fact.enc) (z := 3) (fun _ => rfl) _), (fl_length (f := Tapi_Fact.enc) (z := 3) (fun _ => rfl) _), (all_one (f := Tapi_Fact.enc) (fun _ => rfl) _), h71, fl_app.symm, (by simp <;> omega), ok1 h72⟩
theorem tollwayref52_Detection_L29_1 (s_0 : Tapi_State) (x_1 : Tapi_Source) (k8 : Nat) (b5 : (List Tapi_Fact)) (c52 : (↑k8 : Int) < (↑s_0.Result.Passages.length : Int)) (x53 : Tapi_Passage) (h54 : s_0.Result.Passages[k8]? = some x53) (o55 : Bool) (hl55 : lp (tollwayref52_Detection_L55_step s_0 x_1 k8 b5 x53) (false, (0 : Nat)) = some o55) (c68 : ¬ (o55 = true)) (h73 : InR .i64 ((↑k8 : Int) + 1)) : Does Tryd.prog GT 2 (bodyAt Tryd.prog 10 [1, 1, 1, 1, 0, 1, 0, 0]) (tollwayref52_Detection_L29_H s_0 x_1 (k8, b5)) .normal (S 90 [(2, .ptr 0 0), (3, .ptr 1 0), (6, .vec 2 b5.length 3), (8, .int .i64 ((↑k8 : Int) + 1))] [{ c := (Tapi_State.enc s_0), e := 64, ext := false, fz := 0, pl := true, o := false }, { c := (Tapi_Source.enc x_1), e := 66, ext := false, fz := 0, pl := true, o := false }, { c := (fl Tapi_Fact.enc b5), e := 81, ext := true, fz := 0, pl := true, o := true }]) :=
  Does.of_viewM 2 400 (cs 5 ((.op none .a) :: (.br true) :: (cs 4 ((.op none (.i k8)) :: (.op none (.v [.str x53.ID, .str x53.Point, .int .i64 x53.Time, .str x53.Tag, .str x53.Plate, .int .i64 x53.Class, .int .i64 x53.Score, .lst (fl Tapi_Source.enc x53.Sources) x53.Sources.length])) :: (cs 4 [.fcut 4 (.exit 4) [(2, .ptr 0 0), (3, .ptr 1 0), (6, .vec 2 b5.length 3), (8, .int .i64 (↑k8 : Int)), (9, .ptr 3 0), (10, .bool o55)] [{ c := (Tapi_State.enc s_0), e := 64, ext := false, fz := 0, pl := true, o := false }, { c := (Tapi_Source.enc x_1), e := 66, ext := false, fz := 0, pl := true, o := false }, { c := (fl Tapi_Fact.enc b5), e := 81, ext := true, fz := 0, pl := true, o := true }, { c := (Tapi_Passage.enc x53), e := 87, ext := false, fz := 0, pl := true, o := false }] [0, 1, 2, 3] [(2, .ptr 0 0), (3, .ptr 1 0), (6, .vec 2 b5.length 3), (8, .int .i64 (↑k8 : Int)), (9, .ptr 3 0), (10, .bool false), (11, .int .i64 (↑(0 : Nat) : Int))] [{ c := (Tapi_State.enc s_0), e := 64, ext := false, fz := 0, pl := true, o := false }, { c := (Tapi_Source.enc x_1), e := 66, ext := false, fz := 0, pl := true, o := false }, { c := (fl Tapi_Fact.enc b5), e := 81, ext := true, fz := 0, pl := true, o := true }, { c := (Tapi_Passage.enc x53), e := 87, ext := false, fz := 0, pl := true, o := false }], .op none .c, .br false, .op none .c, .op none .w, .op none .c]))))) [0, 1, 2] (ps := [((decide ((↑k8 : Int) < (↑s_0.Result.Passages.length : Int))) = true), ((↑k8 : Int) = ((k8 : Nat) : Int) ∧ k8 < s_0.Result.Passages.length), ((fl Tapi_Passage.enc s_0.Result.Passages) ≠ []), (sub (fl Tapi_Passage.enc s_0.Result.Passages) (k8 * 8) 8 = [.str x53.ID, .str x53.Point, .int .i64 x53.Time, .str x53.Tag, .str x53.Plate, .int .i64 x53.Class, .int .i64 x53.Score, .lst (fl Tapi_Source.enc x53.Sources) x53.Sources.length]), ((.ptr 0 0 : AV) = .ptr 0 0), ((.ptr 1 0 : AV) = .ptr 1 0), ((.vec 2 b5.length 3 : AV) = .vec 2 b5.length 3), ((.int .i64 (↑k8 : Int) : AV) = .int .i64 (↑k8 : Int)), ((.ptr 3 0 : AV) = .ptr 3 0), ((.bool false : AV) = .bool false), ((.int .i64 0 : AV) = .int .i64 (↑(0 : Nat) : Int)), (({ c := (Tapi_State.enc s_0), e := 64, ext := false, fz := 0, pl := true, o := false } : Blk) = renB [0, 1, 2, 3] { c := (Tapi_State.enc s_0), e := 64, ext := false, fz := 0, pl := true, o := false }), (({ c := (Tapi_Source.enc x_1), e := 66, ext := false, fz := 0, pl := true, o := false } : Blk) = renB [0, 1, 2, 3] { c := (Tapi_Source.enc x_1), e := 66, ext := false, fz := 0, pl := true, o := false }), (({ c := (fl Tapi_Fact.enc b5), e := 81, ext := true, fz := 0, pl := true, o := true } : Blk) = renB [0, 1, 2, 3] { c := (fl Tapi_Fact.enc b5), e := 81, ext := true, fz := 0, pl := true, o := true }), (({ c := (Tapi_Passage.enc x53), e := 87, ext := false, fz := 0, pl := true, o := false } : Blk) = renB [0, 1, 2, 3] { c := (Tapi_Passage.enc x53), e := 87, ext := false, fz := 0, pl := true, o := false }), (Does Tryd.prog GT 4 (.loop (bodyAt Tryd.prog 10 [1, 1, 1, 1, 0, 1, 0, 0, 1, 0, 0, 1, 1, 0, 1, 0, 0])) (S 90 [(2, .ptr 0 0), (3, .ptr 1 0), (6, .vec 2 b5.length 3), (8, .int .i64 (↑k8 : Int)), (9, .ptr 3 0), (10, .bool false), (11, .int .i64 (↑(0 : Nat) : Int))] [{ c := (Tapi_State.enc s_0), e := 64, ext := false, fz := 0, pl := true, o := false }, { c := (Tapi_Source.enc x_1), e := 66, ext := false, fz := 0, pl := true, o := false }, { c := (fl Tapi_Fact.enc b5), e := 81, ext := true, fz := 0, pl := true, o := true }, { c := (Tapi_Passage.enc x53), e := 87, ext := false, fz := 0, pl := true, o := false }]) (.exit 4) (S 90 [(2, .ptr 0 0), (3, .ptr 1 0), (6, .vec 2 b5.length 3), (8, .int .i64 (↑k8 : Int)), (9, .ptr 3 0), (10, .bool o55)] [{ c := (Tapi_State.enc s_0), e := 64, ext := false, fz := 0, pl := true, o := false }, { c := (Tapi_Source.enc x_1), e := 66, ext := false, fz := 0, pl := true, o := false }, { c := (fl Tapi_Fact.enc b5), e := 81, ext := true, fz := 0, pl := true, o := true }, { c := (Tapi_Passage.enc x53), e := 87, ext := false, fz := 0, pl := true, o := false }])), (o55 = false), (IntKind.min .i64 ≤ ((↑k8 : Int) + 1) ∧ ((↑k8 : Int) + 1) ≤ IntKind.max .i64)]) (by kernel_rfl) (by kernel_rfl) ⟨(decide_eq_true c52), ⟨rfl, get_lt h54⟩, (fl_ne (f := Tapi_Passage.enc) (z := 7) (fun _ => rfl) h54), (fl_sub0 (f := Tapi_Passage.enc) (z := 8) (j := k8) (fun _ => rfl) h54 rfl), rfl, rfl, rfl, rfl, rfl, rfl, rfl, rfl, rfl, rfl, rfl, (tollwayref52_Detection_L55_does s_0 x_1 k8 b5 x53 hl55), (eq_false_of_ne_true c68), ok1 h73⟩
theorem tollwayref52_Detection_L29_2 (s_0 : Tapi_State) (x_1 : Tapi_Source) (k8 : Nat) (b5 : (List Tapi_Fact)) (c52 : ¬ ((↑k8 : Int) < (↑s_0.Result.Passages.length : Int))) : Does Tryd.prog GT 2 (bodyAt Tryd.prog 10 [1, 1, 1, 1, 0, 1, 0, 0]) (tollwayref52_Detection_L29_H s_0 x_1 (k8, b5)) (.exit 2) (S 90 [(6, .vec 2 b5.length 3)] [{ c := (Tapi_State.enc s_0), e := 64, ext := false, fz := 0, pl := true, o := false }, { c := (Tapi_Source.enc x_1), e := 66, ext := false, fz := 0, pl := true, o := false }, { c := (fl Tapi_Fact.enc b5), e := 81, ext := true, fz := 0, pl := true, o := true }]) :=
  Does.of_viewM 2 400 (cs 5 [.op none .a, .br false]) [0, 1, 2] (ps := [((decide ((↑k8 : Int) < (↑s_0.Result.Passages.length : Int))) = false)]) (by kernel_rfl) (by kernel_rfl) (ok1 (decide_eq_false c52))
def tollwayref52_Detection_L29_X (s_0 : Tapi_State) (x_1 : Tapi_Source) : (List Tapi_Fact) → AEx := fun o => (.exit 2)
def tollwayref52_Detection_L29_E (s_0 : Tapi_State) (x_1 : Tapi_Source) : (List Tapi_Fact) → St := fun o => S 90 [(6, .vec 2 o.length 3)] [{ c := (Tapi_State.enc s_0), e := 64, ext := false, fz := 0, pl := true, o := false }, { c := (Tapi_Source.enc x_1), e := 66, ext := false, fz := 0, pl := true, o := false }, { c := (fl Tapi_Fact.enc o), e := 81, ext := true, fz := 0, pl := true, o := true }]
theorem tollwayref52_Detection_L29_does (s_0 : Tapi_State) (x_1 : Tapi_Source) {s : (Nat × (List Tapi_Fact))} {r : (List Tapi_Fact)} (h : lp (tollwayref52_Detection_L29_step s_0 x_1) s = some r) : Does Tryd.prog GT 2 (.loop (bodyAt Tryd.prog 10 [1, 1, 1, 1, 0, 1, 0, 0])) (tollwayref52_Detection_L29_H s_0 x_1 s) (tollwayref52_Detection_L29_X s_0 x_1 r) (tollwayref52_Detection_L29_E s_0 x_1 r) := by
  refine Does.lp (H := tollwayref52_Detection_L29_H s_0 x_1) (X := tollwayref52_Detection_L29_X s_0 x_1) (E := tollwayref52_Detection_L29_E s_0 x_1) (fun s s2 h => ?_) (fun s r h => ?_) h
  · obtain ⟨k8, b5⟩ := s
    unfold tollwayref52_Detection_L29_step at h
    try dsimp only at h
    rcases ite_some h with ⟨c52, h⟩ | ⟨c52, h⟩
    · obtain ⟨x53, h54, h⟩ := bind_some h
      obtain ⟨o55, hl55, h⟩ := bind_some h
      rcases ite_some h with ⟨c68, h⟩ | ⟨c68, h⟩
      · obtain ⟨r69, h70, h⟩ := bind_some h
        obtain ⟨h71, h⟩ := guard_some h
        obtain ⟨h72, h⟩ := guard_some h
        simp only [Option.some.injEq, Sum.inl.injEq] at h
        subst h
        have hq := tollwayref52_Detection_L29_0 s_0 x_1 k8 b5 c52 x53 h54 o55 hl55 c68 r69 h70 h71 h72
        first | exact hq | exact Eq.mp (by simp only [tollwayref52_Detection_L29_H, List.length_set] <;> rfl) hq
      · obtain ⟨h73, h⟩ := guard_some h
        simp only [Option.some.injEq, Sum.inl.injEq] at h
        subst h
        have hq := tollwayref52_Detection_L29_1 s_0 x_1 k8 b5 c52 x53 h54 o55 hl55 c68 h73
        first | exact hq | exact Eq.mp (by simp only [tollwayref52_Detection_L29_H, List.length_set] <;> rfl) hq
    · simp at h
  · obtain ⟨k8, b5⟩ := s
    unfold tollwayref52_Detection_L29_step at h
    try dsimp only at h
    rcases ite_some h with ⟨c52, h⟩ | ⟨c52, h⟩
    · obtain ⟨x53, h54, h⟩ := bind_some h
      obtain ⟨o55, hl55, h⟩ := bind_some h
      rcases ite_some h with ⟨c68, h⟩ | ⟨c68, h⟩
      · obtain ⟨r69, h70, h⟩ := bind_some h
        obtain ⟨h71, h⟩ := guard_some h
        obtain ⟨h72, h⟩ := guard_some h
        simp at h
      · obtain ⟨h73, h⟩ := guard_some h
        simp at h
    · simp only [Option.some.injEq, Sum.inr.injEq] at h
      subst h
      exact ⟨tollwayref52_Detection_L29_2 s_0 x_1 k8 b5 c52, by intro q; cases q⟩
noncomputable def tollwayref52_Detection (s_0 : Tapi_State) (x_1 : Tapi_Source) : Option ((List Tapi_Fact) × Int) :=
  (tollwayref52_known s_0 x_1).bind fun r1 =>
  if r1 = true then
    (tollwayref52_key x_1).bind fun r4 =>
    (lp (tollwayref52_Detection_L6_step s_0 x_1) ((0 : Nat), ([(⟨([100, 101, 116, 101, 99, 116, 105, 111, 110] : List UInt8), r4, 0⟩ : Tapi_Fact)] : (List Tapi_Fact)))).bind fun o6 =>
    (lp (tollwayref52_Detection_L29_step s_0 x_1) ((0 : Nat), o6)).bind fun o29 =>
    some (o29, 0)
  else
    some (([] : List Tapi_Fact), 10)
theorem tollwayref52_Detection_0 (s_0 : Tapi_State) (x_1 : Tapi_Source) (r1 : Bool) (h2 : tollwayref52_known s_0 x_1 = some r1) (c3 : r1 = true) (r4 : (List UInt8)) (h5 : tollwayref52_key x_1 = some r4) (o6 : (List Tapi_Fact)) (hl6 : lp (tollwayref52_Detection_L6_step s_0 x_1) ((0 : Nat), ([(⟨([100, 101, 116, 101, 99, 116, 105, 111, 110] : List UInt8), r4, 0⟩ : Tapi_Fact)] : (List Tapi_Fact))) = some o6) (o29 : (List Tapi_Fact)) (hl29 : lp (tollwayref52_Detection_L29_step s_0 x_1) ((0 : Nat), o6) = some o29) : Ret Tryd.prog GT 10 [.agg (Tapi_State.enc s_0), .agg (Tapi_Source.enc x_1)] (.tup [.vec 0 o29.length 3, .int .i64 0]) [{ c := (fl Tapi_Fact.enc o29), e := 81, ext := true, fz := 0, pl := true, o := true }] :=
  Ret.of_view 400 (cs 6 ((.ret none [.agg (Tapi_State.enc s_0), .agg (Tapi_Source.enc x_1)] (.bool r1) []) :: (.op none .c) :: (.br false) :: (.op none .c) :: (.ret none [.agg (Tapi_Source.enc x_1)] (.str r4) []) :: (cs 4 ((.tr (.wid (.t 6))) :: (.fcut 2 (.exit 0) [(2, .ptr 0 0), (3, .ptr 1 0), (6, .vec 2 o6.length 3)] [{ c := (Tapi_State.enc s_0), e := 64, ext := false, fz := 0, pl := true, o := false }, { c := (Tapi_Source.enc x_1), e := 66, ext := false, fz := 0, pl := true, o := false }, { c := (fl Tapi_Fact.enc o6), e := 81, ext := true, fz := 0, pl := true, o := true }] [0, 1, 2] [(2, .ptr 0 0), (3, .ptr 1 0), (6, .vec 2 (([(⟨([100, 101, 116, 101, 99, 116, 105, 111, 110] : List UInt8), r4, 0⟩ : Tapi_Fact)] : (List Tapi_Fact)).length) 3), (7, .int .i64 (↑(0 : Nat) : Int))] [{ c := (Tapi_State.enc s_0), e := 64, ext := false, fz := 0, pl := true, o := false }, { c := (Tapi_Source.enc x_1), e := 66, ext := false, fz := 0, pl := true, o := false }, { c := (fl Tapi_Fact.enc ([(⟨([100, 101, 116, 101, 99, 116, 105, 111, 110] : List UInt8), r4, 0⟩ : Tapi_Fact)] : (List Tapi_Fact))), e := 81, ext := true, fz := 0, pl := true, o := true }]) :: (.op none .c) :: (.fcut 2 (.exit 2) [(6, .vec 2 o29.length 3)] [{ c := (Tapi_State.enc s_0), e := 64, ext := false, fz := 0, pl := true, o := false }, { c := (Tapi_Source.enc x_1), e := 66, ext := false, fz := 0, pl := true, o := false }, { c := (fl Tapi_Fact.enc o29), e := 81, ext := true, fz := 0, pl := true, o := true }] [0, 1, 5] [(2, .ptr 0 0), (3, .ptr 1 0), (6, .vec 2 o6.length 3), (8, .int .i64 (↑(0 : Nat) : Int))] [{ c := (Tapi_State.enc s_0), e := 64, ext := false, fz := 0, pl := true, o := false }, { c := (Tapi_Source.enc x_1), e := 66, ext := false, fz := 0, pl := true, o := false }, { c := (fl Tapi_Fact.enc o6), e := 81, ext := true, fz := 0, pl := true, o := true }]) :: (cs 3 []))))) [8] (ps := [((.agg (Tapi_State.enc s_0) : AV) = .agg (Tapi_State.enc s_0)), ((.agg (Tapi_Source.enc x_1) : AV) = .agg (Tapi_Source.enc x_1)), (Ret Tryd.prog GT 25 [.agg (Tapi_State.enc s_0), .agg (Tapi_Source.enc x_1)] (.bool r1) []), ((!r1) = false), ((.agg (Tapi_Source.enc x_1) : AV) = .agg (Tapi_Source.enc x_1)), (Ret Tryd.prog GT 26 [.agg (Tapi_Source.enc x_1)] (.str r4) []), (1 ≤ 1), ((.ptr 0 0 : AV) = .ptr 0 0), ((.ptr 1 0 : AV) = .ptr 1 0), ((.vec 2 1 3 : AV) = .vec 2 (([(⟨([100, 101, 116, 101, 99, 116, 105, 111, 110] : List UInt8), r4, 0⟩ : Tapi_Fact)] : (List Tapi_Fact)).length) 3), ((.int .i64 0 : AV) = .int .i64 (↑(0 : Nat) : Int)), (({ c := (Tapi_State.enc s_0), e := 64, ext := false, fz := 0, pl := true, o := false } : Blk) = renB [0, 1, 2] { c := (Tapi_State.enc s_0), e := 64, ext := false, fz := 0, pl := true, o := false }), (({ c := (Tapi_Source.enc x_1), e := 66, ext := false, fz := 0, pl := true, o := false } : Blk) = renB [0, 1, 2] { c := (Tapi_Source.enc x_1), e := 66, ext := false, fz := 0, pl := true, o := false }), (({ c := [.str [100, 101, 116, 101, 99, 116, 105, 111, 110], .str r4, .int .i64 0], e := 81, ext := true, fz := 0, pl := true, o := true } : Blk) = renB [0, 1, 2] { c := (fl Tapi_Fact.enc ([(⟨([100, 101, 116, 101, 99, 116, 105, 111, 110] : List UInt8), r4, 0⟩ : Tapi_Fact)] : (List Tapi_Fact))), e := 81, ext := true, fz := 0, pl := true, o := true }), (Does Tryd.prog GT 2 (.loop (bodyAt Tryd.prog 10 [1, 1, 1, 0, 1, 0, 0])) (S 90 [(2, .ptr 0 0), (3, .ptr 1 0), (6, .vec 2 (([(⟨([100, 101, 116, 101, 99, 116, 105, 111, 110] : List UInt8), r4, 0⟩ : Tapi_Fact)] : (List Tapi_Fact)).length) 3), (7, .int .i64 (↑(0 : Nat) : Int))] [{ c := (Tapi_State.enc s_0), e := 64, ext := false, fz := 0, pl := true, o := false }, { c := (Tapi_Source.enc x_1), e := 66, ext := false, fz := 0, pl := true, o := false }, { c := (fl Tapi_Fact.enc ([(⟨([100, 101, 116, 101, 99, 116, 105, 111, 110] : List UInt8), r4, 0⟩ : Tapi_Fact)] : (List Tapi_Fact))), e := 81, ext := true, fz := 0, pl := true, o := true }]) (.exit 0) (S 90 [(2, .ptr 0 0), (3, .ptr 1 0), (6, .vec 2 o6.length 3)] [{ c := (Tapi_State.enc s_0), e := 64, ext := false, fz := 0, pl := true, o := false }, { c := (Tapi_Source.enc x_1), e := 66, ext := false, fz := 0, pl := true, o := false }, { c := (fl Tapi_Fact.enc o6), e := 81, ext := true, fz := 0, pl := true, o := true }])), ((.ptr 0 0 : AV) = .ptr 0 0), ((.ptr 1 0 : AV) = .ptr 1 0), ((.vec 5 o6.length 3 : AV) = .vec 5 o6.length 3), ((.int .i64 0 : AV) = .int .i64 (↑(0 : Nat) : Int)), (({ c := (Tapi_State.enc s_0), e := 64, ext := false, fz := 0, pl := true, o := false } : Blk) = renB [0, 1, 5] { c := (Tapi_State.enc s_0), e := 64, ext := false, fz := 0, pl := true, o := false }), (({ c := (Tapi_Source.enc x_1), e := 66, ext := false, fz := 0, pl := true, o := false } : Blk) = renB [0, 1, 5] { c := (Tapi_Source.enc x_1), e := 66, ext := false, fz := 0, pl := true, o := false }), (({ c := (fl Tapi_Fact.enc o6), e := 81, ext := true, fz := 0, pl := true, o := true } : Blk) = renB [0, 1, 5] { c := (fl Tapi_Fact.enc o6), e := 81, ext := true, fz := 0, pl := true, o := true }), (Does Tryd.prog GT 2 (.loop (bodyAt Tryd.prog 10 [1, 1, 1, 1, 0, 1, 0, 0])) (S 90 [(2, .ptr 0 0), (3, .ptr 1 0), (6, .vec 2 o6.length 3), (8, .int .i64 (↑(0 : Nat) : Int))] [{ c := (Tapi_State.enc s_0), e := 64, ext := false, fz := 0, pl := true, o := false }, { c := (Tapi_Source.enc x_1), e := 66, ext := false, fz := 0, pl := true, o := false }, { c := (fl Tapi_Fact.enc o6), e := 81, ext := true, fz := 0, pl := true, o := true }]) (.exit 2) (S 90 [(6, .vec 2 o29.length 3)] [{ c := (Tapi_State.enc s_0), e := 64, ext := false, fz := 0, pl := true, o := false }, { c := (Tapi_Source.enc x_1), e := 66, ext := false, fz := 0, pl := true, o := false }, { c := (fl Tapi_Fact.enc o29), e := 81, ext := true, fz := 0, pl := true, o := true }]))]) (by kernel_rfl) (by kernel_rfl) ⟨rfl, rfl, (tollwayref52_known_ret s_0 x_1 r1 h2), (not_f c3), rfl, (tollwayref52_key_ret x_1 r4 h5), (Nat.le_refl _), rfl, rfl, (by first | rfl | simp only [List.length_replicate, List.length_set]), rfl, rfl, rfl, rfl, (tollwayref52_Detection_L6_does s_0 x_1 hl6), rfl, rfl, (by first | rfl | simp only [List.length_replicate, List.length_set]), rfl, rfl, rfl, rfl, ok1 (tollwayref52_Detection_L29_does s_0 x_1 hl29)⟩
theorem tollwayref52_Detection_1 (s_0 : Tapi_State) (x_1 : Tapi_Source) (r1 : Bool) (h2 : tollwayref52_known s_0 x_1 = some r1) (c3 : ¬ (r1 = true)) : Ret Tryd.prog GT 10 [.agg (Tapi_State.enc s_0), .agg (Tapi_Source.enc x_1)] (.tup [.vec 0 (([] : List Tapi_Fact).length) 3, .int .i64 10]) [{ c := (fl Tapi_Fact.enc ([] : List Tapi_Fact)), e := 81, ext := true, fz := 0, pl := true, o := true }] :=
  Ret.of_view 400 (cs 6 ((.ret none [.agg (Tapi_State.enc s_0), .agg (Tapi_Source.enc x_1)] (.bool r1) []) :: (.op none .c) :: (.br true) :: (cs 2 [.tr (.vec (.t 4) 3 81), .tr (.eqc 2 (fl Tapi_Fact.enc ([] : List Tapi_Fact))), .tr (.eqt (.t 4) (.vec 2 (([] : List Tapi_Fact).length) 3))]))) [2] (ps := [((.agg (Tapi_State.enc s_0) : AV) = .agg (Tapi_State.enc s_0)), ((.agg (Tapi_Source.enc x_1) : AV) = .agg (Tapi_Source.enc x_1)), (Ret Tryd.prog GT 25 [.agg (Tapi_State.enc s_0), .agg (Tapi_Source.enc x_1)] (.bool r1) []), ((!r1) = true), ([] = (fl Tapi_Fact.enc ([] : List Tapi_Fact))), ((.vec 2 0 3 : AV) = .vec 2 (([] : List Tapi_Fact).length) 3)]) (by kernel_rfl) (by kernel_rfl) ⟨rfl, rfl, (tollwayref52_known_ret s_0 x_1 r1 h2), (not_t (eq_false_of_ne_true c3)), rfl, ok1 rfl⟩
theorem tollwayref52_Detection_ret (s_0 : Tapi_State) (x_1 : Tapi_Source) (r : ((List Tapi_Fact) × Int)) (h : tollwayref52_Detection s_0 x_1 = some r) : Ret Tryd.prog GT 10 [.agg (Tapi_State.enc s_0), .agg (Tapi_Source.enc x_1)] (.tup [.vec 0 r.1.length 3, .int .i64 r.2]) [{ c := (fl Tapi_Fact.enc r.1), e := 81, ext := true, fz := 0, pl := true, o := true }] := by
  unfold tollwayref52_Detection at h
  obtain ⟨r1, h2, h⟩ := bind_some h
  rcases ite_some h with ⟨c3, h⟩ | ⟨c3, h⟩
  · obtain ⟨r4, h5, h⟩ := bind_some h
    obtain ⟨o6, hl6, h⟩ := bind_some h
    obtain ⟨o29, hl29, h⟩ := bind_some h
    simp only [Option.some.injEq] at h
    subst h
    exact tollwayref52_Detection_0 s_0 x_1 r1 h2 c3 r4 h5 o6 hl6 o29 hl29
  · simp only [Option.some.injEq] at h
    subst h
    exact tollwayref52_Detection_1 s_0 x_1 r1 h2 c3
noncomputable def tollwayref52_Passage (s_0 : Tapi_State) (id_1 : (List UInt8)) : Option ((List Tapi_Fact) × Int) :=
  (tollwayref52_passage s_0.Result.Passages id_1).bind fun r1 =>
  if r1 < (0 : Int) then
    some (([] : List Tapi_Fact), 10)
  else
    (tollwayref52_facts s_0.Result id_1).bind fun r4 =>
    some (r4, 0)
theorem tollwayref52_Passage_0 (s_0 : Tapi_State) (id_1 : (List UInt8)) (r1 : Int) (h2 : tollwayref52_passage s_0.Result.Passages id_1 = some r1) (c3 : r1 < (0 : Int)) : Ret Tryd.prog GT 19 [.agg (Tapi_State.enc s_0), .str id_1] (.tup [.vec 0 (([] : List Tapi_Fact).length) 3, .int .i64 10]) [{ c := (fl Tapi_Fact.enc ([] : List Tapi_Fact)), e := 81, ext := true, fz := 0, pl := true, o := true }] :=
  Ret.of_view 400 (cs 7 ((.ret none [.lst (fl Tapi_Passage.enc s_0.Result.Passages) s_0.Result.Passages.length, .str id_1] (.int .i64 r1) []) :: (.op none .a) :: (.br true) :: (cs 2 [.tr (.vec (.t 4) 3 81), .tr (.eqc 1 (fl Tapi_Fact.enc ([] : List Tapi_Fact))), .tr (.eqt (.t 4) (.vec 1 (([] : List Tapi_Fact).length) 3))]))) [1] (ps := [((.lst (fl Tapi_Passage.enc s_0.Result.Passages) s_0.Result.Passages.length : AV) = .lst (fl Tapi_Passage.enc s_0.Result.Passages) s_0.Result.Passages.length), ((.str id_1 : AV) = .str id_1), (Ret Tryd.prog GT 48 [.lst (fl Tapi_Passage.enc s_0.Result.Passages) s_0.Result.Passages.length, .str id_1] (.int .i64 r1) []), ((decide (r1 < (0 : Int))) = true), ([] = (fl Tapi_Fact.enc ([] : List Tapi_Fact))), ((.vec 1 0 3 : AV) = .vec 1 (([] : List Tapi_Fact).length) 3)]) (by kernel_rfl) (by kernel_rfl) ⟨rfl, rfl, (tollwayref52_passage_ret s_0.Result.Passages id_1 r1 h2), (decide_eq_true c3), rfl, ok1 rfl⟩
theorem tollwayref52_Passage_1 (s_0 : Tapi_State) (id_1 : (List UInt8)) (r1 : Int) (h2 : tollwayref52_passage s_0.Result.Passages id_1 = some r1) (c3 : ¬ (r1 < (0 : Int))) (r4 : (List Tapi_Fact)) (h5 : tollwayref52_facts s_0.Result id_1 = some r4) : Ret Tryd.prog GT 19 [.agg (Tapi_State.enc s_0), .str id_1] (.tup [.vec 0 r4.length 3, .int .i64 0]) [{ c := (fl Tapi_Fact.enc r4), e := 81, ext := true, fz := 0, pl := true, o := true }] :=
  Ret.of_view 400 (cs 7 ((.ret none [.lst (fl Tapi_Passage.enc s_0.Result.Passages) s_0.Result.Passages.length, .str id_1] (.int .i64 r1) []) :: (.op none .a) :: (.br false) :: (cs 3 ((.ret none [.agg (Tapi_Result.enc s_0.Result), .str id_1] (.vec 0 r4.length 3) [{ c := (fl Tapi_Fact.enc r4), e := 81, ext := true, fz := 0, pl := true, o := true }]) :: (cs 2 []))))) [1] (ps := [((.lst (fl Tapi_Passage.enc s_0.Result.Passages) s_0.Result.Passages.length : AV) = .lst (fl Tapi_Passage.enc s_0.Result.Passages) s_0.Result.Passages.length), ((.str id_1 : AV) = .str id_1), (Ret Tryd.prog GT 48 [.lst (fl Tapi_Passage.enc s_0.Result.Passages) s_0.Result.Passages.length, .str id_1] (.int .i64 r1) []), ((decide (r1 < (0 : Int))) = false), ((.agg (Tapi_Result.enc s_0.Result) : AV) = .agg (Tapi_Result.enc s_0.Result)), ((.str id_1 : AV) = .str id_1), (Ret Tryd.prog GT 28 [.agg (Tapi_Result.enc s_0.Result), .str id_1] (.vec 0 r4.length 3) [{ c := (fl Tapi_Fact.enc r4), e := 81, ext := true, fz := 0, pl := true, o := true }])]) (by kernel_rfl) (by kernel_rfl) ⟨rfl, rfl, (tollwayref52_passage_ret s_0.Result.Passages id_1 r1 h2), (decide_eq_false c3), rfl, rfl, ok1 (tollwayref52_facts_ret s_0.Result id_1 r4 h5)⟩
theorem tollwayref52_Passage_ret (s_0 : Tapi_State) (id_1 : (List UInt8)) (r : ((List Tapi_Fact) × Int)) (h : tollwayref52_Passage s_0 id_1 = some r) : Ret Tryd.prog GT 19 [.agg (Tapi_State.enc s_0), .str id_1] (.tup [.vec 0 r.1.length 3, .int .i64 r.2]) [{ c := (fl Tapi_Fact.enc r.1), e := 81, ext := true, fz := 0, pl := true, o := true }] := by
  unfold tollwayref52_Passage at h
  obtain ⟨r1, h2, h⟩ := bind_some h
  rcases ite_some h with ⟨c3, h⟩ | ⟨c3, h⟩
  · simp only [Option.some.injEq] at h
    subst h
    exact tollwayref52_Passage_0 s_0 id_1 r1 h2 c3
  · obtain ⟨r4, h5, h⟩ := bind_some h
    simp only [Option.some.injEq] at h
    subst h
    exact tollwayref52_Passage_1 s_0 id_1 r1 h2 c3 r4 h5
end Go.Proofs.YtalobodhbbkgdabDoor.Av
