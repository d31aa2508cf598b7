import Derived.Test.YtpadimnchmghpaaGreatDoorAvZ
import Derived.Test.YtpadimnchmghpaaGreatDoorProg
import Derived.Tactics
import Derived.Test.YtpadimnchmghpaaGreatDoorN0
import Derived.Test.YtpadimnchmghpaaGreatDoorAvSh
set_option linter.unusedVariables false
set_option linter.unusedSimpArgs false
set_option maxHeartbeats 4000000
namespace Go.Proofs.YtpadimnchmghpaaGreatDoor.Av
open Go Go.Proofs
noncomputable def tollwayref02_Copy (b_0 : (List UInt8)) : Option (List UInt8) :=
  if 0 + b_0.length ≤ 4294967296 then
    some b_0
  else none
theorem tollwayref02_Copy_0 (b_0 : (List UInt8)) (h1 : 0 + b_0.length ≤ 4294967296) : Ret Tryz.prog G0 71 [.lst (u8s b_0) b_0.length] (.vec 0 b_0.length 1) [(bV (u8s b_0) 5)] :=
  Ret.of_view 400 (cs 4 [.tr (.vec (.t 4) 1 5), .op none (.ap 4), .tr (.eqc 1 (u8s b_0)), .tr (.eqt (.t 6) (.vec 1 b_0.length 1)), .op none .c]) [1] (ps := [(List.length ((u8s b_0) : List AV) = b_0.length), (List.length ([] : List AV) = 0), (List.all ((u8s b_0) : List AV) AV.one = true), (0 + b_0.length ≤ 4294967296), ([] ++ (u8s b_0) = (u8s b_0)), ((.vec 1 (0 + b_0.length) 1 : AV) = .vec 1 b_0.length 1)]) (by kernel_rfl) (by kernel_rfl) ⟨u8s_length, rfl, (u8s_one _), h1, rfl, ok1 (by simp <;> omega)⟩
theorem tollwayref02_Copy_ret (b_0 : (List UInt8)) (r : (List UInt8)) (h : tollwayref02_Copy b_0 = some r) : Ret Tryz.prog G0 71 [.lst (u8s b_0) b_0.length] (.vec 0 r.length 1) [(bV (u8s r) 5)] := by
  unfold tollwayref02_Copy at h
  obtain ⟨h1, h⟩ := guard_some h
  simp only [Option.some.injEq] at h
  subst h
  exact tollwayref02_Copy_0 b_0 h1
noncomputable def tollwayref02_PutInt_L9_step  : (Int × (List UInt8)) → Option ((Int × (List UInt8)) ⊕ (Int × (List UInt8)))
  | (v6, b0) =>
    if v6 ≥ (128 : Int) then
      if InR .u8 (Int.tmod v6 128) then
        if InR .u8 ((Int.tmod v6 128) + 128) then
          if b0.length + 1 ≤ 4294967296 then
            if InR .u64 (Int.tdiv v6 128) then
              some (Sum.inl ((Int.tdiv v6 128), (b0 ++ [(UInt8.ofNat (Int.toNat ((Int.tmod v6 128) + 128)))])))
            else none
          else none
        else none
      else none
    else
      some (Sum.inr (v6, b0))
def tollwayref02_PutInt_L9_H  : (Int × (List UInt8)) → St := fun (s : (Int × (List UInt8))) => S 36 [(5, .vec 0 s.2.length 1), (6, .int .u64 s.1)] [(bV (u8s s.2) 5)]
theorem tollwayref02_PutInt_L9_0  (v6 : Int) (b0 : (List UInt8)) (c15 : v6 ≥ (128 : Int)) (h16 : InR .u8 (Int.tmod v6 128)) (h17 : InR .u8 ((Int.tmod v6 128) + 128)) (h18 : b0.length + 1 ≤ 4294967296) (h19 : InR .u64 (Int.tdiv v6 128)) : Does Tryz.prog G0 0 (bodyAt Tryz.prog 51 [1, 1, 1, 1, 0, 0, 0]) (tollwayref02_PutInt_L9_H  (v6, b0)) .normal (S 36 [(5, .vec 0 ((b0 ++ [(UInt8.ofNat (Int.toNat ((Int.tmod v6 128) + 128)))]).length) 1), (6, .int .u64 (Int.tdiv v6 128))] [(bV (u8s (b0 ++ [(UInt8.ofNat (Int.toNat ((Int.tmod v6 128) + 128)))])) 5)]) :=
  Does.of_viewM 0 400 ((.op none .c) :: (.op none .a) :: (.br true) :: (cs 2 ((.op none .a) :: (.op none .w) :: (.op none .w) :: (.op none .c) :: (.op none (.ap 4)) :: (.tr (.eqc 2 (u8s (b0 ++ [(UInt8.ofNat (Int.toNat ((Int.tmod v6 128) + 128)))])))) :: (.tr (.eqt (.t 28) (.vec 2 ((b0 ++ [(UInt8.ofNat (Int.toNat ((Int.tmod v6 128) + 128)))]).length) 1))) :: (cs 2 [.op none .w, .op none .c])))) [2] (ps := [((decide (v6 ≥ (128 : Int))) = true), (128 ≠ (0 : Int)), (IntKind.min .u8 ≤ (Int.tmod v6 128) ∧ (Int.tmod v6 128) ≤ IntKind.max .u8), (IntKind.min .u8 ≤ ((Int.tmod v6 128) + 128) ∧ ((Int.tmod v6 128) + 128) ≤ IntKind.max .u8), (0 + 1 ≤ List.length ([.int .u8 ((Int.tmod v6 128) + 128)] : List AV)), (List.length ((u8s b0) : List AV) = b0.length), (List.all ([.int .u8 ((Int.tmod v6 128) + 128)] : List AV) AV.one = true), (b0.length + 1 ≤ 4294967296), ((u8s b0) ++ [.int .u8 ((Int.tmod v6 128) + 128)] = (u8s (b0 ++ [(UInt8.ofNat (Int.toNat ((Int.tmod v6 128) + 128)))]))), ((.vec 2 (b0.length + 1) 1 : AV) = .vec 2 ((b0 ++ [(UInt8.ofNat (Int.toNat ((Int.tmod v6 128) + 128)))]).length) 1), (128 ≠ (0 : Int)), (IntKind.min .u64 ≤ (Int.tdiv v6 128) ∧ (Int.tdiv v6 128) ≤ IntKind.max .u64)]) (by kernel_rfl) (by kernel_rfl) ⟨(decide_eq_true c15), (by decide), h16, h17, (Nat.le_of_ble_eq_true rfl), u8s_length, rfl, h18, (u8s_snoc (congrArg (fun q => [q]) (u8_of h17))), (by simp <;> omega), (by decide), ok1 h19⟩
theorem tollwayref02_PutInt_L9_1  (v6 : Int) (b0 : (List UInt8)) (c15 : ¬ (v6 ≥ (128 : Int))) : Does Tryz.prog G0 0 (bodyAt Tryz.prog 51 [1, 1, 1, 1, 0, 0, 0]) (tollwayref02_PutInt_L9_H  (v6, b0)) (.exit 0) (S 36 [(5, .vec 0 b0.length 1), (6, .int .u64 v6)] [(bV (u8s b0) 5)]) :=
  Does.of_viewM 0 400 [.op none .c, .op none .a, .br false] [0] (ps := [((decide (v6 ≥ (128 : Int))) = false)]) (by kernel_rfl) (by kernel_rfl) (ok1 (decide_eq_false c15))
def tollwayref02_PutInt_L9_X  : (Int × (List UInt8)) → AEx := fun o => (.exit 0)
def tollwayref02_PutInt_L9_E  : (Int × (List UInt8)) → St := fun o => S 36 [(5, .vec 0 o.2.length 1), (6, .int .u64 o.1)] [(bV (u8s o.2) 5)]
theorem tollwayref02_PutInt_L9_does  {s : (Int × (List UInt8))} {r : (Int × (List UInt8))} (h : lp (tollwayref02_PutInt_L9_step ) s = some r) : Does Tryz.prog G0 0 (.loop (bodyAt Tryz.prog 51 [1, 1, 1, 1, 0, 0, 0])) (tollwayref02_PutInt_L9_H  s) (tollwayref02_PutInt_L9_X  r) (tollwayref02_PutInt_L9_E  r) := by
  refine Does.lp (H := tollwayref02_PutInt_L9_H ) (X := tollwayref02_PutInt_L9_X ) (E := tollwayref02_PutInt_L9_E ) (fun s s2 h => ?_) (fun s r h => ?_) h
  · obtain ⟨v6, b0⟩ := s
    unfold tollwayref02_PutInt_L9_step at h
    try dsimp only at h
    rcases ite_some h with ⟨c15, h⟩ | ⟨c15, h⟩
    · obtain ⟨h16, h⟩ := guard_some h
      obtain ⟨h17, h⟩ := guard_some h
      obtain ⟨h18, h⟩ := guard_some h
      obtain ⟨h19, h⟩ := guard_some h
      simp only [Option.some.injEq, Sum.inl.injEq] at h
      subst h
      have hq := tollwayref02_PutInt_L9_0 v6 b0 c15 h16 h17 h18 h19
      first | exact hq | exact Eq.mp (by simp only [tollwayref02_PutInt_L9_H, List.length_set] <;> rfl) hq
    · simp at h
  · obtain ⟨v6, b0⟩ := s
    unfold tollwayref02_PutInt_L9_step at h
    try dsimp only at h
    rcases ite_some h with ⟨c15, h⟩ | ⟨c15, h⟩
    · obtain ⟨h16, h⟩ := guard_some h
      obtain ⟨h17, h⟩ := guard_some h
      obtain ⟨h18, h⟩ := guard_some h
      obtain ⟨h19, h⟩ := guard_some h
      simp at h
    · simp only [Option.some.injEq, Sum.inr.injEq] at h
      subst h
      exact ⟨tollwayref02_PutInt_L9_1 v6 b0 c15, by intro q; cases q⟩
noncomputable def tollwayref02_PutInt (b_0 : (List UInt8)) (n_1 : Int) : Option (List UInt8) :=
  (tollwayref02_Copy b_0).bind fun r1 =>
  if n_1 < (0 : Int) then
    if InR .i64 (n_1 + 1) then
      if InR .i64 (0 - (n_1 + 1)) then
        if InR .u64 (0 - (n_1 + 1)) then
          if InR .u64 (2 * (0 - (n_1 + 1))) then
            if InR .u64 ((2 * (0 - (n_1 + 1))) + 1) then
              (lp (tollwayref02_PutInt_L9_step) (((2 * (0 - (n_1 + 1))) + 1), r1)).bind fun o9 =>
              if InR .u8 (o9.1) then
                if o9.2.length + 1 ≤ 4294967296 then
                  some (o9.2 ++ [(UInt8.ofNat (Int.toNat o9.1))])
                else none
              else none
            else none
          else none
        else none
      else none
    else none
  else
    if InR .u64 (n_1) then
      if InR .u64 (2 * n_1) then
        (lp (tollwayref02_PutInt_L9_step) ((2 * n_1), r1)).bind fun o24 =>
        if InR .u8 (o24.1) then
          if o24.2.length + 1 ≤ 4294967296 then
            some (o24.2 ++ [(UInt8.ofNat (Int.toNat o24.1))])
          else none
        else none
      else none
    else none
def tollwayref02_PutInt_h1 (b_0 : (List UInt8)) (r1 : (List UInt8)) : List CH := (cs 2 ((.ret none [.lst (u8s b_0) b_0.length] (.vec 0 r1.length 1) [(bV (u8s r1) 5)]) :: (cs 3 [.op none .a])))
theorem tollwayref02_PutInt_0 (b_0 : (List UInt8)) (n_1 : Int) (r1 : (List UInt8)) (h2 : tollwayref02_Copy b_0 = some r1) (c3 : n_1 < (0 : Int)) (h4 : InR .i64 (n_1 + 1)) (h5 : InR .i64 (0 - (n_1 + 1))) (h6 : InR .u64 (0 - (n_1 + 1))) (h7 : InR .u64 (2 * (0 - (n_1 + 1)))) (h8 : InR .u64 ((2 * (0 - (n_1 + 1))) + 1)) (o9 : (Int × (List UInt8))) (hl9 : lp (tollwayref02_PutInt_L9_step) (((2 * (0 - (n_1 + 1))) + 1), r1) = some o9) (h20 : InR .u8 (o9.1)) (h21 : o9.2.length + 1 ≤ 4294967296) : Ret Tryz.prog G0 51 [.lst (u8s b_0) b_0.length, .int .i64 n_1] (.vec 0 ((o9.2 ++ [(UInt8.ofNat (Int.toNat o9.1))]).length) 1) [(bV (u8s (o9.2 ++ [(UInt8.ofNat (Int.toNat o9.1))])) 5)] :=
  Ret.of_view 400 ((tollwayref02_PutInt_h1 b_0 r1) ++ ((.br true) :: (.op none .c) :: (.op none .w) :: (.op none .w) :: (.op none .w) :: (.op none .w) :: (.op none .w) :: (.op none .c) :: (.fcut 0 (.exit 0) [(5, .vec 0 o9.2.length 1), (6, .int .u64 o9.1)] [(bV (u8s o9.2) 5)] [0] [(5, .vec 0 r1.length 1), (6, .int .u64 ((2 * (0 - (n_1 + 1))) + 1))] [(bV (u8s r1) 5)]) :: (cs 2 [.op none .w, .op none .c, .op none (.ap 4), .tr (.eqc 3 (u8s (o9.2 ++ [(UInt8.ofNat (Int.toNat o9.1))]))), .tr (.eqt (.t 35) (.vec 3 ((o9.2 ++ [(UInt8.ofNat (Int.toNat o9.1))]).length) 1)), .op none .c]))) [3] (ps := ([((.lst (u8s b_0) b_0.length : AV) = .lst (u8s b_0) b_0.length), (Ret Tryz.prog G0 71 [.lst (u8s b_0) b_0.length] (.vec 0 r1.length 1) [(bV (u8s r1) 5)])] ++ [((decide (n_1 < (0 : Int))) = true), (IntKind.min .i64 ≤ (n_1 + 1) ∧ (n_1 + 1) ≤ IntKind.max .i64), (IntKind.min .i64 ≤ (0 - (n_1 + 1)) ∧ (0 - (n_1 + 1)) ≤ IntKind.max .i64), (IntKind.min .u64 ≤ (0 - (n_1 + 1)) ∧ (0 - (n_1 + 1)) ≤ IntKind.max .u64), (IntKind.min .u64 ≤ (2 * (0 - (n_1 + 1))) ∧ (2 * (0 - (n_1 + 1))) ≤ IntKind.max .u64), (IntKind.min .u64 ≤ ((2 * (0 - (n_1 + 1))) + 1) ∧ ((2 * (0 - (n_1 + 1))) + 1) ≤ IntKind.max .u64), ((.vec 0 r1.length 1 : AV) = .vec 0 r1.length 1), ((.int .u64 ((2 * (0 - (n_1 + 1))) + 1) : AV) = .int .u64 ((2 * (0 - (n_1 + 1))) + 1)), (((bV (u8s r1) 5) : Blk) = renB [0] (bV (u8s r1) 5)), (Does Tryz.prog G0 0 (.loop (bodyAt Tryz.prog 51 [1, 1, 1, 1, 0, 0, 0])) (S 36 [(5, .vec 0 r1.length 1), (6, .int .u64 ((2 * (0 - (n_1 + 1))) + 1))] [(bV (u8s r1) 5)]) (.exit 0) (S 36 [(5, .vec 0 o9.2.length 1), (6, .int .u64 o9.1)] [(bV (u8s o9.2) 5)])), (IntKind.min .u8 ≤ o9.1 ∧ o9.1 ≤ IntKind.max .u8), (0 + 1 ≤ List.length ([.int .u8 o9.1] : List AV)), (List.length ((u8s o9.2) : List AV) = o9.2.length), (List.all ([.int .u8 o9.1] : List AV) AV.one = true), (o9.2.length + 1 ≤ 4294967296), ((u8s o9.2) ++ [.int .u8 o9.1] = (u8s (o9.2 ++ [(UInt8.ofNat (Int.toNat o9.1))]))), ((.vec 3 (o9.2.length + 1) 1 : AV) = .vec 3 ((o9.2 ++ [(UInt8.ofNat (Int.toNat o9.1))]).length) 1)])) (by kernel_rfl) (by kernel_rfl) (allOk_append.2 ⟨⟨rfl, ok1 (tollwayref02_Copy_ret b_0 r1 h2)⟩, ⟨(decide_eq_true c3), h4, h5, h6, h7, h8, rfl, rfl, rfl, (tollwayref02_PutInt_L9_does (s := (((2 * (0 - (n_1 + 1))) + 1), r1)) (r := o9) hl9), h20, (Nat.le_of_ble_eq_true rfl), u8s_length, rfl, h21, (u8s_snoc (congrArg (fun q => [q]) (u8_of h20))), ok1 (by simp <;> omega)⟩⟩)
theorem tollwayref02_PutInt_1 (b_0 : (List UInt8)) (n_1 : Int) (r1 : (List UInt8)) (h2 : tollwayref02_Copy b_0 = some r1) (c3 : ¬ (n_1 < (0 : Int))) (h22 : InR .u64 (n_1)) (h23 : InR .u64 (2 * n_1)) (o24 : (Int × (List UInt8))) (hl24 : lp (tollwayref02_PutInt_L9_step) ((2 * n_1), r1) = some o24) (h35 : InR .u8 (o24.1)) (h36 : o24.2.length + 1 ≤ 4294967296) : Ret Tryz.prog G0 51 [.lst (u8s b_0) b_0.length, .int .i64 n_1] (.vec 0 ((o24.2 ++ [(UInt8.ofNat (Int.toNat o24.1))]).length) 1) [(bV (u8s (o24.2 ++ [(UInt8.ofNat (Int.toNat o24.1))])) 5)] :=
  Ret.of_view 400 ((tollwayref02_PutInt_h1 b_0 r1) ++ ((.br false) :: (.op none .c) :: (.op none .w) :: (.op none .w) :: (.op none .c) :: (.fcut 0 (.exit 0) [(5, .vec 0 o24.2.length 1), (6, .int .u64 o24.1)] [(bV (u8s o24.2) 5)] [0] [(5, .vec 0 r1.length 1), (6, .int .u64 (2 * n_1))] [(bV (u8s r1) 5)]) :: (cs 2 [.op none .w, .op none .c, .op none (.ap 4), .tr (.eqc 3 (u8s (o24.2 ++ [(UInt8.ofNat (Int.toNat o24.1))]))), .tr (.eqt (.t 35) (.vec 3 ((o24.2 ++ [(UInt8.ofNat (Int.toNat o24.1))]).length) 1)), .op none .c]))) [3] (ps := ([((.lst (u8s b_0) b_0.length : AV) = .lst (u8s b_0) b_0.length), (Ret Tryz.prog G0 71 [.lst (u8s b_0) b_0.length] (.vec 0 r1.length 1) [(bV (u8s r1) 5)])] ++ [((decide (n_1 < (0 : Int))) = false), (IntKind.min .u64 ≤ n_1 ∧ n_1 ≤ IntKind.max .u64), (IntKind.min .u64 ≤ (2 * n_1) ∧ (2 * n_1) ≤ IntKind.max .u64), ((.vec 0 r1.length 1 : AV) = .vec 0 r1.length 1), ((.int .u64 (2 * n_1) : AV) = .int .u64 (2 * n_1)), (((bV (u8s r1) 5) : Blk) = renB [0] (bV (u8s r1) 5)), (Does Tryz.prog G0 0 (.loop (bodyAt Tryz.prog 51 [1, 1, 1, 1, 0, 0, 0])) (S 36 [(5, .vec 0 r1.length 1), (6, .int .u64 (2 * n_1))] [(bV (u8s r1) 5)]) (.exit 0) (S 36 [(5, .vec 0 o24.2.length 1), (6, .int .u64 o24.1)] [(bV (u8s o24.2) 5)])), (IntKind.min .u8 ≤ o24.1 ∧ o24.1 ≤ IntKind.max .u8), (0 + 1 ≤ List.length ([.int .u8 o24.1] : List AV)), (List.length ((u8s o24.2) : List AV) = o24.2.length), (List.all ([.int .u8 o24.1] : List AV) AV.one = true), (o24.2.length + 1 ≤ 4294967296), ((u8s o24.2) ++ [.int .u8 o24.1] = (u8s (o24.2 ++ [(UInt8.ofNat (Int.toNat o24.1))]))), ((.vec 3 (o24.2.length + 1) 1 : AV) = .vec 3 ((o24.2 ++ [(UInt8.ofNat (Int.toNat o24.1))]).length) 1)])) (by kernel_rfl) (by kernel_rfl) (allOk_append.2 ⟨⟨rfl, ok1 (tollwayref02_Copy_ret b_0 r1 h2)⟩, ⟨(decide_eq_false c3), h22, h23, rfl, rfl, rfl, (tollwayref02_PutInt_L9_does (s := ((2 * n_1), r1)) (r := o24) hl24), h35, (Nat.le_of_ble_eq_true rfl), u8s_length, rfl, h36, (u8s_snoc (congrArg (fun q => [q]) (u8_of h35))), ok1 (by simp <;> omega)⟩⟩)
theorem tollwayref02_PutInt_ret (b_0 : (List UInt8)) (n_1 : Int) (r : (List UInt8)) (h : tollwayref02_PutInt b_0 n_1 = some r) : Ret Tryz.prog G0 51 [.lst (u8s b_0) b_0.length, .int .i64 n_1] (.vec 0 r.length 1) [(bV (u8s r) 5)] := by
  unfold tollwayref02_PutInt at h
  obtain ⟨r1, h2, h⟩ := bind_some h
  rcases ite_some h with ⟨c3, h⟩ | ⟨c3, h⟩
  · obtain ⟨h4, h⟩ := guard_some h
    obtain ⟨h5, h⟩ := guard_some h
    obtain ⟨h6, h⟩ := guard_some h
    obtain ⟨h7, h⟩ := guard_some h
    obtain ⟨h8, h⟩ := guard_some h
    obtain ⟨o9, hl9, h⟩ := bind_some h
    obtain ⟨h20, h⟩ := guard_some h
    obtain ⟨h21, h⟩ := guard_some h
    simp only [Option.some.injEq] at h
    subst h
    exact tollwayref02_PutInt_0 b_0 n_1 r1 h2 c3 h4 h5 h6 h7 h8 o9 hl9 h20 h21
  · obtain ⟨h22, h⟩ := guard_some h
    obtain ⟨h23, h⟩ := guard_some h
    obtain ⟨o24, hl24, h⟩ := bind_some h
    obtain ⟨h35, h⟩ := guard_some h
    obtain ⟨h36, h⟩ := guard_some h
    simp only [Option.some.injEq] at h
    subst h
    exact tollwayref02_PutInt_1 b_0 n_1 r1 h2 c3 h22 h23 o24 hl24 h35 h36
noncomputable def tollwayref02_PutText_L3_step (s_1 : (List UInt8)) : (Nat × (List UInt8)) → Option ((Nat × (List UInt8)) ⊕ (List UInt8))
  | (k6, b0) =>
    if (↑k6 : Int) < (↑s_1.length : Int) then
      (s_1[k6]?).bind fun x10 =>
      if b0.length + 1 ≤ 4294967296 then
        if InR .i64 ((↑k6 : Int) + 1) then
          some (Sum.inl ((k6 + 1), (b0 ++ [x10])))
        else none
      else none
    else
      some (Sum.inr b0)
def tollwayref02_PutText_L3_H (s_1 : (List UInt8)) : (Nat × (List UInt8)) → St := fun (s : (Nat × (List UInt8))) => S 24 [(1, .str s_1), (5, .vec 0 s.2.length 1), (6, .int .i64 (↑s.1 : Int))] [(bV (u8s s.2) 5)]
theorem tollwayref02_PutText_L3_0 (s_1 : (List UInt8)) (k6 : Nat) (b0 : (List UInt8)) (c9 : (↑k6 : Int) < (↑s_1.length : Int)) (x10 : UInt8) (h11 : s_1[k6]? = some x10) (h12 : b0.length + 1 ≤ 4294967296) (h13 : InR .i64 ((↑k6 : Int) + 1)) : Does Tryz.prog G0 0 (bodyAt Tryz.prog 50 [1, 1, 0, 1, 0, 0]) (tollwayref02_PutText_L3_H s_1 (k6, b0)) .normal (S 24 [(1, .str s_1), (5, .vec 0 ((b0 ++ [x10]).length) 1), (6, .int .i64 ((↑k6 : Int) + 1))] [(bV (u8s (b0 ++ [x10])) 5)]) :=
  Does.of_viewM 0 400 (cs 3 ((.op none .a) :: (.br true) :: (cs 3 ((.op none (.i k6)) :: (.tr (.eqt (.t 20) (.int .u8 (x10.toNat : Int)))) :: (.op none .c) :: (.op none (.ap 4)) :: (.tr (.eqc 2 (u8s (b0 ++ [x10])))) :: (.tr (.eqt (.t 22) (.vec 2 ((b0 ++ [x10]).length) 1))) :: (cs 2 [.op none .w, .op none .c]))))) [2] (ps := [((decide ((↑k6 : Int) < (↑s_1.length : Int))) = true), ((↑k6 : Int) = ((k6 : Nat) : Int) ∧ k6 < s_1.length), ((.int .u8 ((List.getD s_1 k6 0).toNat : Int) : AV) = .int .u8 (x10.toNat : Int)), (0 + 1 ≤ List.length ([.int .u8 (x10.toNat : Int)] : List AV)), (List.length ((u8s b0) : List AV) = b0.length), (List.all ([.int .u8 (x10.toNat : Int)] : List AV) AV.one = true), (b0.length + 1 ≤ 4294967296), ((u8s b0) ++ [.int .u8 (x10.toNat : Int)] = (u8s (b0 ++ [x10]))), ((.vec 2 (b0.length + 1) 1 : AV) = .vec 2 ((b0 ++ [x10]).length) 1), (IntKind.min .i64 ≤ ((↑k6 : Int) + 1) ∧ ((↑k6 : Int) + 1) ≤ IntKind.max .i64)]) (by kernel_rfl) (by kernel_rfl) ⟨(decide_eq_true c9), ⟨rfl, get_lt h11⟩, (getD_u8 h11), (Nat.le_of_ble_eq_true rfl), u8s_length, rfl, h12, (u8s_snoc rfl), (by simp <;> omega), ok1 h13⟩
theorem tollwayref02_PutText_L3_1 (s_1 : (List UInt8)) (k6 : Nat) (b0 : (List UInt8)) (c9 : ¬ ((↑k6 : Int) < (↑s_1.length : Int))) : Does Tryz.prog G0 0 (bodyAt Tryz.prog 50 [1, 1, 0, 1, 0, 0]) (tollwayref02_PutText_L3_H s_1 (k6, b0)) (.exit 0) (S 24 [(5, .vec 0 b0.length 1)] [(bV (u8s b0) 5)]) :=
  Does.of_viewM 0 400 (cs 3 [.op none .a, .br false]) [0] (ps := [((decide ((↑k6 : Int) < (↑s_1.length : Int))) = false)]) (by kernel_rfl) (by kernel_rfl) (ok1 (decide_eq_false c9))
def tollwayref02_PutText_L3_X (s_1 : (List UInt8)) : (List UInt8) → AEx := fun o => (.exit 0)
def tollwayref02_PutText_L3_E (s_1 : (List UInt8)) : (List UInt8) → St := fun o => S 24 [(5, .vec 0 o.length 1)] [(bV (u8s o) 5)]
theorem tollwayref02_PutText_L3_does (s_1 : (List UInt8)) {s : (Nat × (List UInt8))} {r : (List UInt8)} (h : lp (tollwayref02_PutText_L3_step s_1) s = some r) : Does Tryz.prog G0 0 (.loop (bodyAt Tryz.prog 50 [1, 1, 0, 1, 0, 0])) (tollwayref02_PutText_L3_H s_1 s) (tollwayref02_PutText_L3_X s_1 r) (tollwayref02_PutText_L3_E s_1 r) := by
  refine Does.lp (H := tollwayref02_PutText_L3_H s_1) (X := tollwayref02_PutText_L3_X s_1) (E := tollwayref02_PutText_L3_E s_1) (fun s s2 h => ?_) (fun s r h => ?_) h
  · obtain ⟨k6, b0⟩ := s
    unfold tollwayref02_PutText_L3_step at h
    try dsimp only at h
    rcases ite_some h with ⟨c9, h⟩ | ⟨c9, h⟩
    · obtain ⟨x10, h11, h⟩ := bind_some h
      obtain ⟨h12, h⟩ := guard_some h
      obtain ⟨h13, h⟩ := guard_some h
      simp only [Option.some.injEq, Sum.inl.injEq] at h
      subst h
      have hq := tollwayref02_PutText_L3_0 s_1 k6 b0 c9 x10 h11 h12 h13
      first | exact hq | exact Eq.mp (by simp only [tollwayref02_PutText_L3_H, List.length_set] <;> rfl) hq
    · simp at h
  · obtain ⟨k6, b0⟩ := s
    unfold tollwayref02_PutText_L3_step at h
    try dsimp only at h
    rcases ite_some h with ⟨c9, h⟩ | ⟨c9, h⟩
    · obtain ⟨x10, h11, h⟩ := bind_some h
      obtain ⟨h12, h⟩ := guard_some h
      obtain ⟨h13, h⟩ := guard_some h
      simp at h
    · simp only [Option.some.injEq, Sum.inr.injEq] at h
      subst h
      exact ⟨tollwayref02_PutText_L3_1 s_1 k6 b0 c9, by intro q; cases q⟩
noncomputable def tollwayref02_PutText (b_0 : (List UInt8)) (s_1 : (List UInt8)) : Option (List UInt8) :=
  (tollwayref02_PutInt b_0 (↑s_1.length : Int)).bind fun r1 =>
  (lp (tollwayref02_PutText_L3_step s_1) ((0 : Nat), r1)).bind fun o3 =>
  some o3
theorem tollwayref02_PutText_0 (b_0 : (List UInt8)) (s_1 : (List UInt8)) (r1 : (List UInt8)) (h2 : tollwayref02_PutInt b_0 (↑s_1.length : Int) = some r1) (o3 : (List UInt8)) (hl3 : lp (tollwayref02_PutText_L3_step s_1) ((0 : Nat), r1) = some o3) : Ret Tryz.prog G0 50 [.lst (u8s b_0) b_0.length, .str s_1] (.vec 0 o3.length 1) [(bV (u8s o3) 5)] :=
  Ret.of_view 400 (cs 4 ((.ret none [.lst (u8s b_0) b_0.length, .int .i64 (↑s_1.length : Int)] (.vec 0 r1.length 1) [(bV (u8s r1) 5)]) :: (cs 2 ((.fcut 0 (.exit 0) [(5, .vec 0 o3.length 1)] [(bV (u8s o3) 5)] [0] [(1, .str s_1), (5, .vec 0 r1.length 1), (6, .int .i64 (↑(0 : Nat) : Int))] [(bV (u8s r1) 5)]) :: (cs 2 []))))) [1] (ps := [((.lst (u8s b_0) b_0.length : AV) = .lst (u8s b_0) b_0.length), ((.int .i64 (↑s_1.length : Int) : AV) = .int .i64 (↑s_1.length : Int)), (Ret Tryz.prog G0 51 [.lst (u8s b_0) b_0.length, .int .i64 (↑s_1.length : Int)] (.vec 0 r1.length 1) [(bV (u8s r1) 5)]), ((.str s_1 : AV) = .str s_1), ((.vec 0 r1.length 1 : AV) = .vec 0 r1.length 1), ((.int .i64 0 : AV) = .int .i64 (↑(0 : Nat) : Int)), (((bV (u8s r1) 5) : Blk) = renB [0] (bV (u8s r1) 5)), (Does Tryz.prog G0 0 (.loop (bodyAt Tryz.prog 50 [1, 1, 0, 1, 0, 0])) (S 24 [(1, .str s_1), (5, .vec 0 r1.length 1), (6, .int .i64 (↑(0 : Nat) : Int))] [(bV (u8s r1) 5)]) (.exit 0) (S 24 [(5, .vec 0 o3.length 1)] [(bV (u8s o3) 5)]))]) (by kernel_rfl) (by kernel_rfl) ⟨rfl, rfl, (tollwayref02_PutInt_ret b_0 (↑s_1.length : Int) r1 h2), rfl, rfl, rfl, rfl, ok1 (tollwayref02_PutText_L3_does s_1 (s := ((0 : Nat), r1)) (r := o3) hl3)⟩
theorem tollwayref02_PutText_ret (b_0 : (List UInt8)) (s_1 : (List UInt8)) (r : (List UInt8)) (h : tollwayref02_PutText b_0 s_1 = some r) : Ret Tryz.prog G0 50 [.lst (u8s b_0) b_0.length, .str s_1] (.vec 0 r.length 1) [(bV (u8s r) 5)] := by
  unfold tollwayref02_PutText at h
  obtain ⟨r1, h2, h⟩ := bind_some h
  obtain ⟨o3, hl3, h⟩ := bind_some h
  simp only [Option.some.injEq] at h
  subst h
  exact tollwayref02_PutText_0 b_0 s_1 r1 h2 o3 hl3
noncomputable def tollwayref08_Hash_L1_step (b_0 : (List UInt8)) : (Int × Nat) → Option ((Int × Nat) ⊕ Int)
  | (v3, k4) =>
    if (↑k4 : Int) < (↑b_0.length : Int) then
      (b_0[k4]?).bind fun x10 =>
      if InR .u64 ((x10.toNat : Int)) then
        (some (IntKind.wrap .u64 ((BitVec.ofInt (IntKind.bits .u64) v3 ^^^ BitVec.ofInt (IntKind.bits .u64) (x10.toNat : Int)).toNat : Int))).bind fun y13 =>
        if InR .i64 ((↑k4 : Int) + 1) then
          some (Sum.inl ((IntKind.wrap .u64 (y13 * 1099511628211)), (k4 + 1)))
        else none
      else none
    else
      some (Sum.inr v3)
def tollwayref08_Hash_L1_H (b_0 : (List UInt8)) : (Int × Nat) → St := fun (s : (Int × Nat)) => S 20 [(0, .lst (u8s b_0) b_0.length), (3, .int .u64 s.1), (4, .int .i64 (↑s.2 : Int))] []
theorem tollwayref08_Hash_L1_0 (b_0 : (List UInt8)) (v3 : Int) (k4 : Nat) (c9 : (↑k4 : Int) < (↑b_0.length : Int)) (x10 : UInt8) (h11 : b_0[k4]? = some x10) (h12 : InR .u64 ((x10.toNat : Int))) (y13 : Int) (h14 : some (IntKind.wrap .u64 ((BitVec.ofInt (IntKind.bits .u64) v3 ^^^ BitVec.ofInt (IntKind.bits .u64) (x10.toNat : Int)).toNat : Int)) = some y13) (h15 : InR .i64 ((↑k4 : Int) + 1)) : Does Tryz.prog G0 0 (bodyAt Tryz.prog 24 [1, 1, 0, 1, 0, 0]) (tollwayref08_Hash_L1_H b_0 (v3, k4)) .normal (S 20 [(0, .lst (u8s b_0) b_0.length), (3, .int .u64 (IntKind.wrap .u64 (y13 * 1099511628211))), (4, .int .i64 ((↑k4 : Int) + 1))] []) :=
  Does.of_viewM 0 400 (cs 3 ((.op none .a) :: (.br true) :: (cs 3 ((.op none (.i k4)) :: (.op none (.v [.int .u8 (x10.toNat : Int)])) :: (.op none .w) :: (.op none .a) :: (.tr (.eqt (.t 17) (.int .u64 y13))) :: (.op none .a) :: (cs 2 [.op none .w, .op none .c]))))) [] (ps := [((decide ((↑k4 : Int) < (↑b_0.length : Int))) = true), ((↑k4 : Int) = ((k4 : Nat) : Int) ∧ k4 < b_0.length), ((u8s b_0) ≠ []), (sub (u8s b_0) k4 1 = [.int .u8 (x10.toNat : Int)]), (IntKind.min .u64 ≤ (x10.toNat : Int) ∧ (x10.toNat : Int) ≤ IntKind.max .u64), ((.int .u64 (IntKind.wrap .u64 ((BitVec.ofInt (IntKind.bits .u64) v3 ^^^ BitVec.ofInt (IntKind.bits .u64) (x10.toNat : Int)).toNat : Int)) : AV) = .int .u64 y13), (IntKind.min .i64 ≤ ((↑k4 : Int) + 1) ∧ ((↑k4 : Int) + 1) ≤ IntKind.max .i64)]) (by kernel_rfl) (by kernel_rfl) ⟨(decide_eq_true c9), ⟨rfl, get_lt h11⟩, (u8s_ne h11), (u8s_sub1 h11), h12, (congrArg _ (Option.some.inj h14)), ok1 h15⟩
theorem tollwayref08_Hash_L1_1 (b_0 : (List UInt8)) (v3 : Int) (k4 : Nat) (c9 : ¬ ((↑k4 : Int) < (↑b_0.length : Int))) : Does Tryz.prog G0 0 (bodyAt Tryz.prog 24 [1, 1, 0, 1, 0, 0]) (tollwayref08_Hash_L1_H b_0 (v3, k4)) (.exit 0) (S 20 [(3, .int .u64 v3)] []) :=
  Does.of_viewM 0 400 (cs 3 [.op none .a, .br false]) [] (ps := [((decide ((↑k4 : Int) < (↑b_0.length : Int))) = false)]) (by kernel_rfl) (by kernel_rfl) (ok1 (decide_eq_false c9))
def tollwayref08_Hash_L1_X (b_0 : (List UInt8)) : Int → AEx := fun o => (.exit 0)
def tollwayref08_Hash_L1_E (b_0 : (List UInt8)) : Int → St := fun o => S 20 [(3, .int .u64 o)] []
theorem tollwayref08_Hash_L1_does (b_0 : (List UInt8)) {s : (Int × Nat)} {r : Int} (h : lp (tollwayref08_Hash_L1_step b_0) s = some r) : Does Tryz.prog G0 0 (.loop (bodyAt Tryz.prog 24 [1, 1, 0, 1, 0, 0])) (tollwayref08_Hash_L1_H b_0 s) (tollwayref08_Hash_L1_X b_0 r) (tollwayref08_Hash_L1_E b_0 r) := by
  refine Does.lp (H := tollwayref08_Hash_L1_H b_0) (X := tollwayref08_Hash_L1_X b_0) (E := tollwayref08_Hash_L1_E b_0) (fun s s2 h => ?_) (fun s r h => ?_) h
  · obtain ⟨v3, k4⟩ := s
    unfold tollwayref08_Hash_L1_step at h
    try dsimp only at h
    rcases ite_some h with ⟨c9, h⟩ | ⟨c9, h⟩
    · obtain ⟨x10, h11, h⟩ := bind_some h
      obtain ⟨h12, h⟩ := guard_some h
      obtain ⟨y13, h14, h⟩ := bind_some h
      obtain ⟨h15, h⟩ := guard_some h
      simp only [Option.some.injEq, Sum.inl.injEq] at h
      subst h
      have hq := tollwayref08_Hash_L1_0 b_0 v3 k4 c9 x10 h11 h12 y13 h14 h15
      first | exact hq | exact Eq.mp (by simp only [tollwayref08_Hash_L1_H, List.length_set] <;> rfl) hq
    · simp at h
  · obtain ⟨v3, k4⟩ := s
    unfold tollwayref08_Hash_L1_step at h
    try dsimp only at h
    rcases ite_some h with ⟨c9, h⟩ | ⟨c9, h⟩
    · obtain ⟨x10, h11, h⟩ := bind_some h
      obtain ⟨h12, h⟩ := guard_some h
      obtain ⟨y13, h14, h⟩ := bind_some h
      obtain ⟨h15, h⟩ := guard_some h
      simp at h
    · simp only [Option.some.injEq, Sum.inr.injEq] at h
      subst h
      exact ⟨tollwayref08_Hash_L1_1 b_0 v3 k4 c9, by intro q; cases q⟩
noncomputable def tollwayref08_Hash (b_0 : (List UInt8)) : Option Int :=
  (lp (tollwayref08_Hash_L1_step b_0) ((14695981039346656037 : Int), (0 : Nat))).bind fun o1 =>
  some o1
theorem tollwayref08_Hash_0 (b_0 : (List UInt8)) (o1 : Int) (hl1 : lp (tollwayref08_Hash_L1_step b_0) ((14695981039346656037 : Int), (0 : Nat)) = some o1) : Ret Tryz.prog G0 24 [.lst (u8s b_0) b_0.length] (.int .u64 o1) [] :=
  Ret.of_view 400 (cs 3 ((.fcut 0 (.exit 0) [(3, .int .u64 o1)] [] [] [(0, .lst (u8s b_0) b_0.length), (3, .int .u64 (14695981039346656037 : Int)), (4, .int .i64 (↑(0 : Nat) : Int))] []) :: (cs 2 []))) [] (ps := [((.lst (u8s b_0) b_0.length : AV) = .lst (u8s b_0) b_0.length), ((.int .u64 14695981039346656037 : AV) = .int .u64 (14695981039346656037 : Int)), ((.int .i64 0 : AV) = .int .i64 (↑(0 : Nat) : Int)), (Does Tryz.prog G0 0 (.loop (bodyAt Tryz.prog 24 [1, 1, 0, 1, 0, 0])) (S 20 [(0, .lst (u8s b_0) b_0.length), (3, .int .u64 (14695981039346656037 : Int)), (4, .int .i64 (↑(0 : Nat) : Int))] []) (.exit 0) (S 20 [(3, .int .u64 o1)] []))]) (by kernel_rfl) (by kernel_rfl) ⟨rfl, rfl, rfl, ok1 (tollwayref08_Hash_L1_does b_0 (s := ((14695981039346656037 : Int), (0 : Nat))) (r := o1) hl1)⟩
theorem tollwayref08_Hash_ret (b_0 : (List UInt8)) (r : Int) (h : tollwayref08_Hash b_0 = some r) : Ret Tryz.prog G0 24 [.lst (u8s b_0) b_0.length] (.int .u64 r) [] := by
  unfold tollwayref08_Hash at h
  obtain ⟨o1, hl1, h⟩ := bind_some h
  simp only [Option.some.injEq] at h
  subst h
  exact tollwayref08_Hash_0 b_0 o1 hl1
noncomputable def tollwayref50_Describe_L15_step (x_0 : Tapi_Charge) : (Nat × (List UInt8)) → Option ((Nat × (List UInt8)) ⊕ (List UInt8))
  | (k4, b7) =>
    if (↑k4 : Int) < (↑x_0.Lines.length : Int) then
      (x_0.Lines[k4]?).bind fun x25 =>
      (tollwayref02_PutText b7 x25.Text).bind fun r27 =>
      (tollwayref02_PutInt r27 x25.Cents).bind fun r29 =>
      if InR .i64 ((↑k4 : Int) + 1) then
        some (Sum.inl ((k4 + 1), r29))
      else none
    else
      some (Sum.inr b7)
def tollwayref50_Describe_L15_H (x_0 : Tapi_Charge) : (Nat × (List UInt8)) → St := fun (s : (Nat × (List UInt8))) => S 57 [(1, .ptr 0 0), (3, .vec 1 s.2.length 1), (4, .int .i64 (↑s.1 : Int))] [(bT (Tapi_Charge.enc x_0) 35), (bV (u8s s.2) 5)]
theorem tollwayref50_Describe_L15_0 (x_0 : Tapi_Charge) (k4 : Nat) (b7 : (List UInt8)) (c24 : (↑k4 : Int) < (↑x_0.Lines.length : Int)) (x25 : Tapi_Line) (h26 : x_0.Lines[k4]? = some x25) (r27 : (List UInt8)) (h28 : tollwayref02_PutText b7 x25.Text = some r27) (r29 : (List UInt8)) (h30 : tollwayref02_PutInt r27 x25.Cents = some r29) (h31 : InR .i64 ((↑k4 : Int) + 1)) : Does Tryz.prog G0 1 (bodyAt Tryz.prog 25 [1, 1, 1, 1, 1, 1, 1, 1, 0, 1, 0, 0]) (tollwayref50_Describe_L15_H x_0 (k4, b7)) .normal (S 57 [(1, .ptr 0 0), (3, .vec 1 r29.length 1), (4, .int .i64 ((↑k4 : Int) + 1))] [(bT (Tapi_Charge.enc x_0) 35), (bV (u8s r29) 5)]) :=
  Does.of_viewM 1 400 (cs 4 ((.op none .a) :: (.br true) :: (cs 4 ((.op none (.i k4)) :: (.op none .c) :: (.op none (.v [.str x25.Text])) :: (.ret none [.lst (u8s b7) b7.length, .str x25.Text] (.vec 0 r27.length 1) [(bV (u8s r27) 5)]) :: (cs 5 ((.op none (.i k4)) :: (.op none .c) :: (.op none (.v [.int .i64 x25.Cents])) :: (.ret none [.lst (u8s r27) r27.length, .int .i64 x25.Cents] (.vec 0 r29.length 1) [(bV (u8s r29) 5)]) :: (cs 2 [.op none .w, .op none .c]))))))) [0, 3] (ps := [((decide ((↑k4 : Int) < (↑x_0.Lines.length : Int))) = true), ((↑k4 : Int) = ((k4 : Nat) : Int) ∧ k4 < x_0.Lines.length), ((fl Tapi_Line.enc x_0.Lines) ≠ []), (sub (fl Tapi_Line.enc x_0.Lines) (k4 * 2) 1 = [.str x25.Text]), ((u8s b7) = (u8s b7) ∧ b7.length = b7.length ∧ List.length ((u8s b7) : List AV) = b7.length), ((.str x25.Text : AV) = .str x25.Text), (datBlks [(bV (u8s r27) 5)]), (Ret Tryz.prog G0 50 [.lst (u8s b7) b7.length, .str x25.Text] (.vec 0 r27.length 1) [(bV (u8s r27) 5)]), ((↑k4 : Int) = ((k4 : Nat) : Int) ∧ k4 < x_0.Lines.length), ((fl Tapi_Line.enc x_0.Lines) ≠ []), (sub (fl Tapi_Line.enc x_0.Lines) ((k4 * 2) + 1) 1 = [.int .i64 x25.Cents]), ((u8s r27) = (u8s r27) ∧ r27.length = r27.length ∧ List.length ((u8s r27) : List AV) = r27.length), ((.int .i64 x25.Cents : AV) = .int .i64 x25.Cents), (datBlks [(bV (u8s r29) 5)]), (Ret Tryz.prog G0 51 [.lst (u8s r27) r27.length, .int .i64 x25.Cents] (.vec 0 r29.length 1) [(bV (u8s r29) 5)]), (IntKind.min .i64 ≤ ((↑k4 : Int) + 1) ∧ ((↑k4 : Int) + 1) ≤ IntKind.max .i64)]) (by kernel_rfl) (by kernel_rfl) ⟨(decide_eq_true c24), ⟨rfl, get_lt h26⟩, (fl_ne (f := Tapi_Line.enc) (z := 1) (fun _ => rfl) h26), (fl_sub (f := Tapi_Line.enc) (z := 2) (j := k4) (a := 0) (n := 1) (fun _ => rfl) h26 (by decide) rfl), ⟨rfl, rfl, u8s_length⟩, rfl, ⟨u8s_dat, trivial⟩, (tollwayref02_PutText_ret b7 x25.Text r27 h28), ⟨rfl, get_lt h26⟩, (fl_ne (f := Tapi_Line.enc) (z := 1) (fun _ => rfl) h26), (fl_sub (f := Tapi_Line.enc) (z := 2) (j := k4) (a := 1) (n := 1) (fun _ => rfl) h26 (by decide) rfl), ⟨rfl, rfl, u8s_length⟩, rfl, ⟨u8s_dat, trivial⟩, (tollwayref02_PutInt_ret r27 x25.Cents r29 h30), ok1 h31⟩
theorem tollwayref50_Describe_L15_1 (x_0 : Tapi_Charge) (k4 : Nat) (b7 : (List UInt8)) (c24 : ¬ ((↑k4 : Int) < (↑x_0.Lines.length : Int))) : Does Tryz.prog G0 1 (bodyAt Tryz.prog 25 [1, 1, 1, 1, 1, 1, 1, 1, 0, 1, 0, 0]) (tollwayref50_Describe_L15_H x_0 (k4, b7)) (.exit 0) (S 57 [(3, .vec 1 b7.length 1)] [(bT (Tapi_Charge.enc x_0) 35), (bV (u8s b7) 5)]) :=
  Does.of_viewM 1 400 (cs 4 [.op none .a, .br false]) [0, 1] (ps := [((decide ((↑k4 : Int) < (↑x_0.Lines.length : Int))) = false)]) (by kernel_rfl) (by kernel_rfl) (ok1 (decide_eq_false c24))
def tollwayref50_Describe_L15_X (x_0 : Tapi_Charge) : (List UInt8) → AEx := fun o => (.exit 0)
def tollwayref50_Describe_L15_E (x_0 : Tapi_Charge) : (List UInt8) → St := fun o => S 57 [(3, .vec 1 o.length 1)] [(bT (Tapi_Charge.enc x_0) 35), (bV (u8s o) 5)]
theorem tollwayref50_Describe_L15_does (x_0 : Tapi_Charge) {s : (Nat × (List UInt8))} {r : (List UInt8)} (h : lp (tollwayref50_Describe_L15_step x_0) s = some r) : Does Tryz.prog G0 1 (.loop (bodyAt Tryz.prog 25 [1, 1, 1, 1, 1, 1, 1, 1, 0, 1, 0, 0])) (tollwayref50_Describe_L15_H x_0 s) (tollwayref50_Describe_L15_X x_0 r) (tollwayref50_Describe_L15_E x_0 r) := by
  refine Does.lp (H := tollwayref50_Describe_L15_H x_0) (X := tollwayref50_Describe_L15_X x_0) (E := tollwayref50_Describe_L15_E x_0) (fun s s2 h => ?_) (fun s r h => ?_) h
  · obtain ⟨k4, b7⟩ := s
    unfold tollwayref50_Describe_L15_step at h
    try dsimp only at h
    rcases ite_some h with ⟨c24, h⟩ | ⟨c24, h⟩
    · obtain ⟨x25, h26, h⟩ := bind_some h
      obtain ⟨r27, h28, h⟩ := bind_some h
      obtain ⟨r29, h30, h⟩ := bind_some h
      obtain ⟨h31, h⟩ := guard_some h
      simp only [Option.some.injEq, Sum.inl.injEq] at h
      subst h
      have hq := tollwayref50_Describe_L15_0 x_0 k4 b7 c24 x25 h26 r27 h28 r29 h30 h31
      first | exact hq | exact Eq.mp (by simp only [tollwayref50_Describe_L15_H, List.length_set] <;> rfl) hq
    · simp at h
  · obtain ⟨k4, b7⟩ := s
    unfold tollwayref50_Describe_L15_step at h
    try dsimp only at h
    rcases ite_some h with ⟨c24, h⟩ | ⟨c24, h⟩
    · obtain ⟨x25, h26, h⟩ := bind_some h
      obtain ⟨r27, h28, h⟩ := bind_some h
      obtain ⟨r29, h30, h⟩ := bind_some h
      obtain ⟨h31, h⟩ := guard_some h
      simp at h
    · simp only [Option.some.injEq, Sum.inr.injEq] at h
      subst h
      exact ⟨tollwayref50_Describe_L15_1 x_0 k4 b7 c24, by intro q; cases q⟩
noncomputable def tollwayref50_Describe (x_0 : Tapi_Charge) : Option (List UInt8) :=
  (tollwayref02_PutText [] x_0.Key).bind fun r1 =>
  (tollwayref02_PutText r1 x_0.Vehicle).bind fun r3 =>
  (tollwayref02_PutText r3 x_0.System).bind fun r5 =>
  (tollwayref02_PutInt r5 x_0.Class).bind fun r7 =>
  (tollwayref02_PutInt r7 x_0.Time).bind fun r9 =>
  (tollwayref02_PutInt r9 x_0.Cents).bind fun r11 =>
  (tollwayref02_PutInt r11 (↑x_0.Lines.length : Int)).bind fun r13 =>
  (lp (tollwayref50_Describe_L15_step x_0) ((0 : Nat), r13)).bind fun o15 =>
  some o15
theorem tollwayref50_Describe_0 (x_0 : Tapi_Charge) (r1 : (List UInt8)) (h2 : tollwayref02_PutText [] x_0.Key = some r1) (r3 : (List UInt8)) (h4 : tollwayref02_PutText r1 x_0.Vehicle = some r3) (r5 : (List UInt8)) (h6 : tollwayref02_PutText r3 x_0.System = some r5) (r7 : (List UInt8)) (h8 : tollwayref02_PutInt r5 x_0.Class = some r7) (r9 : (List UInt8)) (h10 : tollwayref02_PutInt r7 x_0.Time = some r9) (r11 : (List UInt8)) (h12 : tollwayref02_PutInt r9 x_0.Cents = some r11) (r13 : (List UInt8)) (h14 : tollwayref02_PutInt r11 (↑x_0.Lines.length : Int) = some r13) (o15 : (List UInt8)) (hl15 : lp (tollwayref50_Describe_L15_step x_0) ((0 : Nat), r13) = some o15) : Ret Tryz.prog G0 25 [.agg (Tapi_Charge.enc x_0)] (.vec 0 o15.length 1) [(bV (u8s o15) 5)] :=
  Ret.of_view 400 (cs 4 ((.ret none [.lst [] 0, .str x_0.Key] (.vec 0 r1.length 1) [(bV (u8s r1) 5)]) :: (cs 4 ((.ret none [.lst (u8s r1) r1.length, .str x_0.Vehicle] (.vec 0 r3.length 1) [(bV (u8s r3) 5)]) :: (cs 4 ((.ret none [.lst (u8s r3) r3.length, .str x_0.System] (.vec 0 r5.length 1) [(bV (u8s r5) 5)]) :: (cs 4 ((.ret none [.lst (u8s r5) r5.length, .int .i64 x_0.Class] (.vec 0 r7.length 1) [(bV (u8s r7) 5)]) :: (cs 4 ((.ret none [.lst (u8s r7) r7.length, .int .i64 x_0.Time] (.vec 0 r9.length 1) [(bV (u8s r9) 5)]) :: (cs 4 ((.ret none [.lst (u8s r9) r9.length, .int .i64 x_0.Cents] (.vec 0 r11.length 1) [(bV (u8s r11) 5)]) :: (cs 5 ((.ret none [.lst (u8s r11) r11.length, .int .i64 (↑x_0.Lines.length : Int)] (.vec 0 r13.length 1) [(bV (u8s r13) 5)]) :: (cs 2 ((.fcut 1 (.exit 0) [(3, .vec 1 o15.length 1)] [(bT (Tapi_Charge.enc x_0) 35), (bV (u8s o15) 5)] [0, 7] [(1, .ptr 0 0), (3, .vec 1 r13.length 1), (4, .int .i64 (↑(0 : Nat) : Int))] [(bT (Tapi_Charge.enc x_0) 35), (bV (u8s r13) 5)]) :: (cs 2 []))))))))))))))))) [9] (ps := [((.str x_0.Key : AV) = .str x_0.Key), (Ret Tryz.prog G0 50 [.lst [] 0, .str x_0.Key] (.vec 0 r1.length 1) [(bV (u8s r1) 5)]), ((u8s r1) = (u8s r1) ∧ r1.length = r1.length ∧ List.length ((u8s r1) : List AV) = r1.length), ((.str x_0.Vehicle : AV) = .str x_0.Vehicle), (datBlks [(bV (u8s r3) 5)]), (Ret Tryz.prog G0 50 [.lst (u8s r1) r1.length, .str x_0.Vehicle] (.vec 0 r3.length 1) [(bV (u8s r3) 5)]), ((u8s r3) = (u8s r3) ∧ r3.length = r3.length ∧ List.length ((u8s r3) : List AV) = r3.length), ((.str x_0.System : AV) = .str x_0.System), (datBlks [(bV (u8s r5) 5)]), (Ret Tryz.prog G0 50 [.lst (u8s r3) r3.length, .str x_0.System] (.vec 0 r5.length 1) [(bV (u8s r5) 5)]), ((u8s r5) = (u8s r5) ∧ r5.length = r5.length ∧ List.length ((u8s r5) : List AV) = r5.length), ((.int .i64 x_0.Class : AV) = .int .i64 x_0.Class), (datBlks [(bV (u8s r7) 5)]), (Ret Tryz.prog G0 51 [.lst (u8s r5) r5.length, .int .i64 x_0.Class] (.vec 0 r7.length 1) [(bV (u8s r7) 5)]), ((u8s r7) = (u8s r7) ∧ r7.length = r7.length ∧ List.length ((u8s r7) : List AV) = r7.length), ((.int .i64 x_0.Time : AV) = .int .i64 x_0.Time), (datBlks [(bV (u8s r9) 5)]), (Ret Tryz.prog G0 51 [.lst (u8s r7) r7.length, .int .i64 x_0.Time] (.vec 0 r9.length 1) [(bV (u8s r9) 5)]), ((u8s r9) = (u8s r9) ∧ r9.length = r9.length ∧ List.length ((u8s r9) : List AV) = r9.length), ((.int .i64 x_0.Cents : AV) = .int .i64 x_0.Cents), (datBlks [(bV (u8s r11) 5)]), (Ret Tryz.prog G0 51 [.lst (u8s r9) r9.length, .int .i64 x_0.Cents] (.vec 0 r11.length 1) [(bV (u8s r11) 5)]), ((u8s r11) = (u8s r11) ∧ r11.length = r11.length ∧ List.length ((u8s r11) : List AV) = r11.length), ((.int .i64 (↑x_0.Lines.length : Int) : AV) = .int .i64 (↑x_0.Lines.length : Int)), (datBlks [(bV (u8s r13) 5)]), (Ret Tryz.prog G0 51 [.lst (u8s r11) r11.length, .int .i64 (↑x_0.Lines.length : Int)] (.vec 0 r13.length 1) [(bV (u8s r13) 5)]), ((.ptr 0 0 : AV) = .ptr 0 0), ((.vec 7 r13.length 1 : AV) = .vec 7 r13.length 1), ((.int .i64 0 : AV) = .int .i64 (↑(0 : Nat) : Int)), (((bT (Tapi_Charge.enc x_0) 35) : Blk) = renB [0, 7] (bT (Tapi_Charge.enc x_0) 35)), (((bV (u8s r13) 5) : Blk) = renB [0, 7] (bV (u8s r13) 5)), (Does Tryz.prog G0 1 (.loop (bodyAt Tryz.prog 25 [1, 1, 1, 1, 1, 1, 1, 1, 0, 1, 0, 0])) (S 57 [(1, .ptr 0 0), (3, .vec 1 r13.length 1), (4, .int .i64 (↑(0 : Nat) : Int))] [(bT (Tapi_Charge.enc x_0) 35), (bV (u8s r13) 5)]) (.exit 0) (S 57 [(3, .vec 1 o15.length 1)] [(bT (Tapi_Charge.enc x_0) 35), (bV (u8s o15) 5)]))]) (by kernel_rfl) (by kernel_rfl) ⟨rfl, (tollwayref02_PutText_ret [] x_0.Key r1 h2), ⟨rfl, rfl, u8s_length⟩, rfl, ⟨u8s_dat, trivial⟩, (tollwayref02_PutText_ret r1 x_0.Vehicle r3 h4), ⟨rfl, rfl, u8s_length⟩, rfl, ⟨u8s_dat, trivial⟩, (tollwayref02_PutText_ret r3 x_0.System r5 h6), ⟨rfl, rfl, u8s_length⟩, rfl, ⟨u8s_dat, trivial⟩, (tollwayref02_PutInt_ret r5 x_0.Class r7 h8), ⟨rfl, rfl, u8s_length⟩, rfl, ⟨u8s_dat, trivial⟩, (tollwayref02_PutInt_ret r7 x_0.Time r9 h10), ⟨rfl, rfl, u8s_length⟩, rfl, ⟨u8s_dat, trivial⟩, (tollwayref02_PutInt_ret r9 x_0.Cents r11 h12), ⟨rfl, rfl, u8s_length⟩, rfl, ⟨u8s_dat, trivial⟩, (tollwayref02_PutInt_ret r11 (↑x_0.Lines.length : Int) r13 h14), rfl, (by first | rfl | simp only [List.length_replicate, List.length_set]), rfl, rfl, rfl, ok1 (tollwayref50_Describe_L15_does x_0 (s := ((0 : Nat), r13)) (r := o15) hl15)⟩
theorem tollwayref50_Describe_ret (x_0 : Tapi_Charge) (r : (List UInt8)) (h : tollwayref50_Describe x_0 = some r) : Ret Tryz.prog G0 25 [.agg (Tapi_Charge.enc x_0)] (.vec 0 r.length 1) [(bV (u8s r) 5)] := by
  unfold tollwayref50_Describe at h
  obtain ⟨r1, h2, h⟩ := bind_some h
  obtain ⟨r3, h4, h⟩ := bind_some h
  obtain ⟨r5, h6, h⟩ := bind_some h
  obtain ⟨r7, h8, h⟩ := bind_some h
  obtain ⟨r9, h10, h⟩ := bind_some h
  obtain ⟨r11, h12, h⟩ := bind_some h
  obtain ⟨r13, h14, h⟩ := bind_some h
  obtain ⟨o15, hl15, h⟩ := bind_some h
  simp only [Option.some.injEq] at h
  subst h
  exact tollwayref50_Describe_0 x_0 r1 h2 r3 h4 r5 h6 r7 h8 r9 h10 r11 h12 r13 h14 o15 hl15
end Go.Proofs.YtpadimnchmghpaaGreatDoor.Av
