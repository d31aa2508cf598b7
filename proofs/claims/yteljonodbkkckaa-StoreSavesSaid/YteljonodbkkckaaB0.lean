import Derived.Test.YteljonodbkkckaaAvX
import Derived.Test.YteljonodbkkckaaProg
import Derived.Tactics
import Derived.Test.YteljonodbkkckaaAwk
set_option linter.unusedVariables false
set_option linter.unusedSimpArgs false
set_option maxHeartbeats 4000000
namespace Go.Proofs.Yteljonodbkkckaa.Av
open Go Go.Proofs
noncomputable def tollwayref02_Copy (b_0 : (List UInt8)) : Option (List UInt8) :=
  if 0 + b_0.length ≤ 4294967296 then
    some b_0
  else none
theorem tollwayref02_Copy_0 (b_0 : (List UInt8)) (h1 : 0 + b_0.length ≤ 4294967296) : Ret Try.prog G0 71 [.lst (u8s b_0) b_0.length] (.vec 0 b_0.length 1) [{ c := (u8s b_0), e := 5, ext := true, fz := 0, pl := true, o := true }] :=
  Ret.of_view 400 (cs 4 [.tr (.vec (.t 4) 1 5), .op none (.ap 4), .tr (.eqc 1 (u8s b_0)), .tr (.eqt (.t 6) (.vec 1 b_0.length 1)), .op none .c]) [1] (ps := [(List.length ((u8s b_0) : List AV) = b_0.length), (List.length ([] : List AV) = 0), (List.all ((u8s b_0) : List AV) AV.one = true), (0 + b_0.length ≤ 4294967296), ([] ++ (u8s b_0) = (u8s b_0)), ((.vec 1 (0 + b_0.length) 1 : AV) = .vec 1 b_0.length 1)]) (by kernel_rfl) (by kernel_rfl) ⟨u8s_length, rfl, (u8s_one _), h1, rfl, ok1 (by simp)⟩
theorem tollwayref02_Copy_ret (b_0 : (List UInt8)) (r : (List UInt8)) (h : tollwayref02_Copy b_0 = some r) : Ret Try.prog G0 71 [.lst (u8s b_0) b_0.length] (.vec 0 r.length 1) [{ c := (u8s r), e := 5, ext := true, fz := 0, pl := true, o := true }] := by
  unfold tollwayref02_Copy at h
  obtain ⟨h1, h⟩ := guard_some h
  simp only [Option.some.injEq] at h
  subst h
  exact tollwayref02_Copy_0 b_0 h1
noncomputable def tollwayref02_PutInt_L9_step  : (Int × (List UInt8)) → Option ((Int × (List UInt8)) ⊕ (Int × (List UInt8)))
  | (v6, b0) =>
    if v6 ≥ (128 : Int) then
      if InR .u8 (Int.tmod v6 128) then
        if InR .u8 ((Int.tmod v6 128) + 128) then
          if b0.length + 1 ≤ 4294967296 then
            if InR .u64 (Int.tdiv v6 128) then
              some (Sum.inl ((Int.tdiv v6 128), (b0 ++ [(UInt8.ofNat (Int.toNat ((Int.tmod v6 128) + 128)))])))
            else none
          else none
        else none
      else none
    else
      some (Sum.inr (v6, b0))
def tollwayref02_PutInt_L9_H  : (Int × (List UInt8)) → St := fun (s : (Int × (List UInt8))) => S 36 [(5, .vec 0 s.2.length 1), (6, .int .u64 s.1)] [{ c := (u8s s.2), e := 5, ext := true, fz := 0, pl := true, o := true }]
theorem tollwayref02_PutInt_L9_0  (v6 : Int) (b0 : (List UInt8)) (c15 : v6 ≥ (128 : Int)) (h16 : InR .u8 (Int.tmod v6 128)) (h17 : InR .u8 ((Int.tmod v6 128) + 128)) (h18 : b0.length + 1 ≤ 4294967296) (h19 : InR .u64 (Int.tdiv v6 128)) : Does Try.prog G0 0 (bodyAt Try.prog 75 [1, 1, 1, 1, 0, 0, 0]) (tollwayref02_PutInt_L9_H  (v6, b0)) .normal (S 36 [(5, .vec 0 ((b0 ++ [(UInt8.ofNat (Int.toNat ((Int.tmod v6 128) + 128)))]).length) 1), (6, .int .u64 (Int.tdiv v6 128))] [{ c := (u8s (b0 ++ [(UInt8.ofNat (Int.toNat ((Int.tmod v6 128) + 128)))])), e := 5, ext := true, fz := 0, pl := true, o := true }]) :=
  Does.of_viewM 0 400 ((.op none .c) :: (.op none .a) :: (.br true) :: (cs 2 ((.op none .a) :: (.op none .w) :: (.op none .w) :: (.op none .c) :: (.op none (.ap 4)) :: (.tr (.eqc 2 (u8s (b0 ++ [(UInt8.ofNat (Int.toNat ((Int.tmod v6 128) + 128)))])))) :: (.tr (.eqt (.t 28) (.vec 2 ((b0 ++ [(UInt8.ofNat (Int.toNat ((Int.tmod v6 128) + 128)))]).length) 1))) :: (cs 2 [.op none .w, .op none .c])))) [2] (ps := [((decide (v6 ≥ (128 : Int))) = true), (128 ≠ (0 : Int)), (IntKind.min .u8 ≤ (Int.tmod v6 128) ∧ (Int.tmod v6 128) ≤ IntKind.max .u8), (IntKind.min .u8 ≤ ((Int.tmod v6 128) + 128) ∧ ((Int.tmod v6 128) + 128) ≤ IntKind.max .u8), (0 + 1 ≤ List.length ([.int .u8 ((Int.tmod v6 128) + 128)] : List AV)), (List.length ((u8s b0) : List AV) = b0.length), (List.all ([.int .u8 ((Int.tmod v6 128) + 128)] : List AV) AV.one = true), (b0.length + 1 ≤ 4294967296), ((u8s b0) ++ [.int .u8 ((Int.tmod v6 128) + 128)] = (u8s (b0 ++ [(UInt8.ofNat (Int.toNat ((Int.tmod v6 128) + 128)))]))), ((.vec 2 (b0.length + 1) 1 : AV) = .vec 2 ((b0 ++ [(UInt8.ofNat (Int.toNat ((Int.tmod v6 128) + 128)))]).length) 1), (128 ≠ (0 : Int)), (IntKind.min .u64 ≤ (Int.tdiv v6 128) ∧ (Int.tdiv v6 128) ≤ IntKind.max .u64)]) (by kernel_rfl) (by kernel_rfl) ⟨(decide_eq_true c15), (by decide), h16, h17, (Nat.le_of_ble_eq_true rfl), u8s_length, rfl, h18, (u8s_snoc (congrArg (fun q => [q]) (u8_of h17))), (by simp), (by decide), ok1 h19⟩
theorem tollwayref02_PutInt_L9_1  (v6 : Int) (b0 : (List UInt8)) (c15 : ¬ (v6 ≥ (128 : Int))) : Does Try.prog G0 0 (bodyAt Try.prog 75 [1, 1, 1, 1, 0, 0, 0]) (tollwayref02_PutInt_L9_H  (v6, b0)) (.exit 0) (S 36 [(5, .vec 0 b0.length 1), (6, .int .u64 v6)] [{ c := (u8s b0), e := 5, ext := true, fz := 0, pl := true, o := true }]) :=
  Does.of_viewM 0 400 [.op none .c, .op none .a, .br false] [0] (ps := [((decide (v6 ≥ (128 : Int))) = false)]) (by kernel_rfl) (by kernel_rfl) (ok1 (decide_eq_false c15))
def tollwayref02_PutInt_L9_X  : (Int × (List UInt8)) → AEx := fun o => (.exit 0)
def tollwayref02_PutInt_L9_E  : (Int × (List UInt8)) → St := fun o => S 36 [(5, .vec 0 o.2.length 1), (6, .int .u64 o.1)] [{ c := (u8s o.2), e := 5, ext := true, fz := 0, pl := true, o := true }]
theorem tollwayref02_PutInt_L9_does  {s : (Int × (List UInt8))} {r : (Int × (List UInt8))} (h : lp (tollwayref02_PutInt_L9_step ) s = some r) : Does Try.prog G0 0 (.loop (bodyAt Try.prog 75 [1, 1, 1, 1, 0, 0, 0])) (tollwayref02_PutInt_L9_H  s) (tollwayref02_PutInt_L9_X  r) (tollwayref02_PutInt_L9_E  r) := by
  refine Does.lp (H := tollwayref02_PutInt_L9_H ) (X := tollwayref02_PutInt_L9_X ) (E := tollwayref02_PutInt_L9_E ) (fun s s2 h => ?_) (fun s r h => ?_) h
  · obtain ⟨v6, b0⟩ := s
    unfold tollwayref02_PutInt_L9_step at h
    try dsimp only at h
    rcases ite_some h with ⟨c15, h⟩ | ⟨c15, h⟩
    · obtain ⟨h16, h⟩ := guard_some h
      obtain ⟨h17, h⟩ := guard_some h
      obtain ⟨h18, h⟩ := guard_some h
      obtain ⟨h19, h⟩ := guard_some h
      simp only [Option.some.injEq, Sum.inl.injEq] at h
      subst h
      exact tollwayref02_PutInt_L9_0 v6 b0 c15 h16 h17 h18 h19
    · simp at h
  · obtain ⟨v6, b0⟩ := s
    unfold tollwayref02_PutInt_L9_step at h
    try dsimp only at h
    rcases ite_some h with ⟨c15, h⟩ | ⟨c15, h⟩
    · obtain ⟨h16, h⟩ := guard_some h
      obtain ⟨h17, h⟩ := guard_some h
      obtain ⟨h18, h⟩ := guard_some h
      obtain ⟨h19, h⟩ := guard_some h
      simp at h
    · simp only [Option.some.injEq, Sum.inr.injEq] at h
      subst h
      exact ⟨tollwayref02_PutInt_L9_1 v6 b0 c15, by intro q; cases q⟩
noncomputable def tollwayref02_PutInt_L24_step  : (Int × (List UInt8)) → Option ((Int × (List UInt8)) ⊕ (Int × (List UInt8)))
  | (v6, b0) =>
    if v6 ≥ (128 : Int) then
      if InR .u8 (Int.tmod v6 128) then
        if InR .u8 ((Int.tmod v6 128) + 128) then
          if b0.length + 1 ≤ 4294967296 then
            if InR .u64 (Int.tdiv v6 128) then
              some (Sum.inl ((Int.tdiv v6 128), (b0 ++ [(UInt8.ofNat (Int.toNat ((Int.tmod v6 128) + 128)))])))
            else none
          else none
        else none
      else none
    else
      some (Sum.inr (v6, b0))
def tollwayref02_PutInt_L24_H  : (Int × (List UInt8)) → St := fun (s : (Int × (List UInt8))) => S 36 [(5, .vec 0 s.2.length 1), (6, .int .u64 s.1)] [{ c := (u8s s.2), e := 5, ext := true, fz := 0, pl := true, o := true }]
theorem tollwayref02_PutInt_L24_0  (v6 : Int) (b0 : (List UInt8)) (c30 : v6 ≥ (128 : Int)) (h31 : InR .u8 (Int.tmod v6 128)) (h32 : InR .u8 ((Int.tmod v6 128) + 128)) (h33 : b0.length + 1 ≤ 4294967296) (h34 : InR .u64 (Int.tdiv v6 128)) : Does Try.prog G0 0 (bodyAt Try.prog 75 [1, 1, 1, 1, 0, 0, 0]) (tollwayref02_PutInt_L24_H  (v6, b0)) .normal (S 36 [(5, .vec 0 ((b0 ++ [(UInt8.ofNat (Int.toNat ((Int.tmod v6 128) + 128)))]).length) 1), (6, .int .u64 (Int.tdiv v6 128))] [{ c := (u8s (b0 ++ [(UInt8.ofNat (Int.toNat ((Int.tmod v6 128) + 128)))])), e := 5, ext := true, fz := 0, pl := true, o := true }]) :=
  Does.of_viewM 0 400 ((.op none .c) :: (.op none .a) :: (.br true) :: (cs 2 ((.op none .a) :: (.op none .w) :: (.op none .w) :: (.op none .c) :: (.op none (.ap 4)) :: (.tr (.eqc 2 (u8s (b0 ++ [(UInt8.ofNat (Int.toNat ((Int.tmod v6 128) + 128)))])))) :: (.tr (.eqt (.t 28) (.vec 2 ((b0 ++ [(UInt8.ofNat (Int.toNat ((Int.tmod v6 128) + 128)))]).length) 1))) :: (cs 2 [.op none .w, .op none .c])))) [2] (ps := [((decide (v6 ≥ (128 : Int))) = true), (128 ≠ (0 : Int)), (IntKind.min .u8 ≤ (Int.tmod v6 128) ∧ (Int.tmod v6 128) ≤ IntKind.max .u8), (IntKind.min .u8 ≤ ((Int.tmod v6 128) + 128) ∧ ((Int.tmod v6 128) + 128) ≤ IntKind.max .u8), (0 + 1 ≤ List.length ([.int .u8 ((Int.tmod v6 128) + 128)] : List AV)), (List.length ((u8s b0) : List AV) = b0.length), (List.all ([.int .u8 ((Int.tmod v6 128) + 128)] : List AV) AV.one = true), (b0.length + 1 ≤ 4294967296), ((u8s b0) ++ [.int .u8 ((Int.tmod v6 128) + 128)] = (u8s (b0 ++ [(UInt8.ofNat (Int.toNat ((Int.tmod v6 128) + 128)))]))), ((.vec 2 (b0.length + 1) 1 : AV) = .vec 2 ((b0 ++ [(UInt8.ofNat (Int.toNat ((Int.tmod v6 128) + 128)))]).length) 1), (128 ≠ (0 : Int)), (IntKind.min .u64 ≤ (Int.tdiv v6 128) ∧ (Int.tdiv v6 128) ≤ IntKind.max .u64)]) (by kernel_rfl) (by kernel_rfl) ⟨(decide_eq_true c30), (by decide), h31, h32, (Nat.le_of_ble_eq_true rfl), u8s_length, rfl, h33, (u8s_snoc (congrArg (fun q => [q]) (u8_of h32))), (by simp), (by decide), ok1 h34⟩
theorem tollwayref02_PutInt_L24_1  (v6 : Int) (b0 : (List UInt8)) (c30 : ¬ (v6 ≥ (128 : Int))) : Does Try.prog G0 0 (bodyAt Try.prog 75 [1, 1, 1, 1, 0, 0, 0]) (tollwayref02_PutInt_L24_H  (v6, b0)) (.exit 0) (S 36 [(5, .vec 0 b0.length 1), (6, .int .u64 v6)] [{ c := (u8s b0), e := 5, ext := true, fz := 0, pl := true, o := true }]) :=
  Does.of_viewM 0 400 [.op none .c, .op none .a, .br false] [0] (ps := [((decide (v6 ≥ (128 : Int))) = false)]) (by kernel_rfl) (by kernel_rfl) (ok1 (decide_eq_false c30))
def tollwayref02_PutInt_L24_X  : (Int × (List UInt8)) → AEx := fun o => (.exit 0)
def tollwayref02_PutInt_L24_E  : (Int × (List UInt8)) → St := fun o => S 36 [(5, .vec 0 o.2.length 1), (6, .int .u64 o.1)] [{ c := (u8s o.2), e := 5, ext := true, fz := 0, pl := true, o := true }]
theorem tollwayref02_PutInt_L24_does  {s : (Int × (List UInt8))} {r : (Int × (List UInt8))} (h : lp (tollwayref02_PutInt_L24_step ) s = some r) : Does Try.prog G0 0 (.loop (bodyAt Try.prog 75 [1, 1, 1, 1, 0, 0, 0])) (tollwayref02_PutInt_L24_H  s) (tollwayref02_PutInt_L24_X  r) (tollwayref02_PutInt_L24_E  r) := by
  refine Does.lp (H := tollwayref02_PutInt_L24_H ) (X := tollwayref02_PutInt_L24_X ) (E := tollwayref02_PutInt_L24_E ) (fun s s2 h => ?_) (fun s r h => ?_) h
  · obtain ⟨v6, b0⟩ := s
    unfold tollwayref02_PutInt_L24_step at h
    try dsimp only at h
    rcases ite_some h with ⟨c30, h⟩ | ⟨c30, h⟩
    · obtain ⟨h31, h⟩ := guard_some h
      obtain ⟨h32, h⟩ := guard_some h
      obtain ⟨h33, h⟩ := guard_some h
      obtain ⟨h34, h⟩ := guard_some h
      simp only [Option.some.injEq, Sum.inl.injEq] at h
      subst h
      exact tollwayref02_PutInt_L24_0 v6 b0 c30 h31 h32 h33 h34
    · simp at h
  · obtain ⟨v6, b0⟩ := s
    unfold tollwayref02_PutInt_L24_step at h
    try dsimp only at h
    rcases ite_some h with ⟨c30, h⟩ | ⟨c30, h⟩
    · obtain ⟨h31, h⟩ := guard_some h
      obtain ⟨h32, h⟩ := guard_some h
      obtain ⟨h33, h⟩ := guard_some h
      obtain ⟨h34, h⟩ := guard_some h
      simp at h
    · simp only [Option.some.injEq, Sum.inr.injEq] at h
      subst h
      exact ⟨tollwayref02_PutInt_L24_1 v6 b0 c30, by intro q; cases q⟩
noncomputable def tollwayref02_PutInt (b_0 : (List UInt8)) (n_1 : Int) : Option (List UInt8) :=
  (tollwayref02_Copy b_0).bind fun r1 =>
  if n_1 < (0 : Int) then
    if InR .i64 (n_1 + 1) then
      if InR .i64 (0 - (n_1 + 1)) then
        if InR .u64 (0 - (n_1 + 1)) then
          if InR .u64 (2 * (0 - (n_1 + 1))) then
            if InR .u64 ((2 * (0 - (n_1 + 1))) + 1) then
              (lp (tollwayref02_PutInt_L9_step) (((2 * (0 - (n_1 + 1))) + 1), r1)).bind fun o9 =>
              if InR .u8 (o9.1) then
                if o9.2.length + 1 ≤ 4294967296 then
                  some (o9.2 ++ [(UInt8.ofNat (Int.toNat o9.1))])
                else none
              else none
            else none
          else none
        else none
      else none
    else none
  else
    if InR .u64 (n_1) then
      if InR .u64 (2 * n_1) then
        (lp (tollwayref02_PutInt_L24_step) ((2 * n_1), r1)).bind fun o24 =>
        if InR .u8 (o24.1) then
          if o24.2.length + 1 ≤ 4294967296 then
            some (o24.2 ++ [(UInt8.ofNat (Int.toNat o24.1))])
          else none
        else none
      else none
    else none
theorem tollwayref02_PutInt_0 (b_0 : (List UInt8)) (n_1 : Int) (r1 : (List UInt8)) (h2 : tollwayref02_Copy b_0 = some r1) (c3 : n_1 < (0 : Int)) (h4 : InR .i64 (n_1 + 1)) (h5 : InR .i64 (0 - (n_1 + 1))) (h6 : InR .u64 (0 - (n_1 + 1))) (h7 : InR .u64 (2 * (0 - (n_1 + 1)))) (h8 : InR .u64 ((2 * (0 - (n_1 + 1))) + 1)) (o9 : (Int × (List UInt8))) (hl9 : lp (tollwayref02_PutInt_L9_step) (((2 * (0 - (n_1 + 1))) + 1), r1) = some o9) (h20 : InR .u8 (o9.1)) (h21 : o9.2.length + 1 ≤ 4294967296) : Ret Try.prog G0 75 [.lst (u8s b_0) b_0.length, .int .i64 n_1] (.vec 0 ((o9.2 ++ [(UInt8.ofNat (Int.toNat o9.1))]).length) 1) [{ c := (u8s (o9.2 ++ [(UInt8.ofNat (Int.toNat o9.1))])), e := 5, ext := true, fz := 0, pl := true, o := true }] :=
  Ret.of_view 400 (cs 2 ((.ret none [.lst (u8s b_0) b_0.length] (.vec 0 r1.length 1) [{ c := (u8s r1), e := 5, ext := true, fz := 0, pl := true, o := true }]) :: (cs 3 ((.op none .a) :: (.br true) :: (.op none .c) :: (.op none .w) :: (.op none .w) :: (.op none .w) :: (.op none .w) :: (.op none .w) :: (.op none .c) :: (.fcut 0 (.exit 0) [(5, .vec 0 o9.2.length 1), (6, .int .u64 o9.1)] [{ c := (u8s o9.2), e := 5, ext := true, fz := 0, pl := true, o := true }] [0] [(5, .vec 0 r1.length 1), (6, .int .u64 ((2 * (0 - (n_1 + 1))) + 1))] [{ c := (u8s r1), e := 5, ext := true, fz := 0, pl := true, o := true }]) :: (cs 2 [.op none .w, .op none .c, .op none (.ap 4), .tr (.eqc 3 (u8s (o9.2 ++ [(UInt8.ofNat (Int.toNat o9.1))]))), .tr (.eqt (.t 35) (.vec 3 ((o9.2 ++ [(UInt8.ofNat (Int.toNat o9.1))]).length) 1)), .op none .c]))))) [3] (ps := [((.lst (u8s b_0) b_0.length : AV) = .lst (u8s b_0) b_0.length), (Ret Try.prog G0 71 [.lst (u8s b_0) b_0.length] (.vec 0 r1.length 1) [{ c := (u8s r1), e := 5, ext := true, fz := 0, pl := true, o := true }]), ((decide (n_1 < (0 : Int))) = true), (IntKind.min .i64 ≤ (n_1 + 1) ∧ (n_1 + 1) ≤ IntKind.max .i64), (IntKind.min .i64 ≤ (0 - (n_1 + 1)) ∧ (0 - (n_1 + 1)) ≤ IntKind.max .i64), (IntKind.min .u64 ≤ (0 - (n_1 + 1)) ∧ (0 - (n_1 + 1)) ≤ IntKind.max .u64), (IntKind.min .u64 ≤ (2 * (0 - (n_1 + 1))) ∧ (2 * (0 - (n_1 + 1))) ≤ IntKind.max .u64), (IntKind.min .u64 ≤ ((2 * (0 - (n_1 + 1))) + 1) ∧ ((2 * (0 - (n_1 + 1))) + 1) ≤ IntKind.max .u64), ((.vec 0 r1.length 1 : AV) = .vec 0 r1.length 1), ((.int .u64 ((2 * (0 - (n_1 + 1))) + 1) : AV) = .int .u64 ((2 * (0 - (n_1 + 1))) + 1)), (({ c := (u8s r1), e := 5, ext := true, fz := 0, pl := true, o := true } : Blk) = renB [0] { c := (u8s r1), e := 5, ext := true, fz := 0, pl := true, o := true }), (Does Try.prog G0 0 (.loop (bodyAt Try.prog 75 [1, 1, 1, 1, 0, 0, 0])) (S 36 [(5, .vec 0 r1.length 1), (6, .int .u64 ((2 * (0 - (n_1 + 1))) + 1))] [{ c := (u8s r1), e := 5, ext := true, fz := 0, pl := true, o := true }]) (.exit 0) (S 36 [(5, .vec 0 o9.2.length 1), (6, .int .u64 o9.1)] [{ c := (u8s o9.2), e := 5, ext := true, fz := 0, pl := true, o := true }])), (IntKind.min .u8 ≤ o9.1 ∧ o9.1 ≤ IntKind.max .u8), (0 + 1 ≤ List.length ([.int .u8 o9.1] : List AV)), (List.length ((u8s o9.2) : List AV) = o9.2.length), (List.all ([.int .u8 o9.1] : List AV) AV.one = true), (o9.2.length + 1 ≤ 4294967296), ((u8s o9.2) ++ [.int .u8 o9.1] = (u8s (o9.2 ++ [(UInt8.ofNat (Int.toNat o9.1))]))), ((.vec 3 (o9.2.length + 1) 1 : AV) = .vec 3 ((o9.2 ++ [(UInt8.ofNat (Int.toNat o9.1))]).length) 1)]) (by kernel_rfl) (by kernel_rfl) ⟨rfl, (tollwayref02_Copy_ret b_0 r1 h2), (decide_eq_true c3), h4, h5, h6, h7, h8, rfl, rfl, rfl, (tollwayref02_PutInt_L9_does hl9), h20, (Nat.le_of_ble_eq_true rfl), u8s_length, rfl, h21, (u8s_snoc (congrArg (fun q => [q]) (u8_of h20))), ok1 (by simp)⟩
theorem tollwayref02_PutInt_1 (b_0 : (List UInt8)) (n_1 : Int) (r1 : (List UInt8)) (h2 : tollwayref02_Copy b_0 = some r1) (c3 : ¬ (n_1 < (0 : Int))) (h22 : InR .u64 (n_1)) (h23 : InR .u64 (2 * n_1)) (o24 : (Int × (List UInt8))) (hl24 : lp (tollwayref02_PutInt_L24_step) ((2 * n_1), r1) = some o24) (h35 : InR .u8 (o24.1)) (h36 : o24.2.length + 1 ≤ 4294967296) : Ret Try.prog G0 75 [.lst (u8s b_0) b_0.length, .int .i64 n_1] (.vec 0 ((o24.2 ++ [(UInt8.ofNat (Int.toNat o24.1))]).length) 1) [{ c := (u8s (o24.2 ++ [(UInt8.ofNat (Int.toNat o24.1))])), e := 5, ext := true, fz := 0, pl := true, o := true }] :=
  Ret.of_view 400 (cs 2 ((.ret none [.lst (u8s b_0) b_0.length] (.vec 0 r1.length 1) [{ c := (u8s r1), e := 5, ext := true, fz := 0, pl := true, o := true }]) :: (cs 3 ((.op none .a) :: (.br false) :: (.op none .c) :: (.op none .w) :: (.op none .w) :: (.op none .c) :: (.fcut 0 (.exit 0) [(5, .vec 0 o24.2.length 1), (6, .int .u64 o24.1)] [{ c := (u8s o24.2), e := 5, ext := true, fz := 0, pl := true, o := true }] [0] [(5, .vec 0 r1.length 1), (6, .int .u64 (2 * n_1))] [{ c := (u8s r1), e := 5, ext := true, fz := 0, pl := true, o := true }]) :: (cs 2 [.op none .w, .op none .c, .op none (.ap 4), .tr (.eqc 3 (u8s (o24.2 ++ [(UInt8.ofNat (Int.toNat o24.1))]))), .tr (.eqt (.t 35) (.vec 3 ((o24.2 ++ [(UInt8.ofNat (Int.toNat o24.1))]).length) 1)), .op none .c]))))) [3] (ps := [((.lst (u8s b_0) b_0.length : AV) = .lst (u8s b_0) b_0.length), (Ret Try.prog G0 71 [.lst (u8s b_0) b_0.length] (.vec 0 r1.length 1) [{ c := (u8s r1), e := 5, ext := true, fz := 0, pl := true, o := true }]), ((decide (n_1 < (0 : Int))) = false), (IntKind.min .u64 ≤ n_1 ∧ n_1 ≤ IntKind.max .u64), (IntKind.min .u64 ≤ (2 * n_1) ∧ (2 * n_1) ≤ IntKind.max .u64), ((.vec 0 r1.length 1 : AV) = .vec 0 r1.length 1), ((.int .u64 (2 * n_1) : AV) = .int .u64 (2 * n_1)), (({ c := (u8s r1), e := 5, ext := true, fz := 0, pl := true, o := true } : Blk) = renB [0] { c := (u8s r1), e := 5, ext := true, fz := 0, pl := true, o := true }), (Does Try.prog G0 0 (.loop (bodyAt Try.prog 75 [1, 1, 1, 1, 0, 0, 0])) (S 36 [(5, .vec 0 r1.length 1), (6, .int .u64 (2 * n_1))] [{ c := (u8s r1), e := 5, ext := true, fz := 0, pl := true, o := true }]) (.exit 0) (S 36 [(5, .vec 0 o24.2.length 1), (6, .int .u64 o24.1)] [{ c := (u8s o24.2), e := 5, ext := true, fz := 0, pl := true, o := true }])), (IntKind.min .u8 ≤ o24.1 ∧ o24.1 ≤ IntKind.max .u8), (0 + 1 ≤ List.length ([.int .u8 o24.1] : List AV)), (List.length ((u8s o24.2) : List AV) = o24.2.length), (List.all ([.int .u8 o24.1] : List AV) AV.one = true), (o24.2.length + 1 ≤ 4294967296), ((u8s o24.2) ++ [.int .u8 o24.1] = (u8s (o24.2 ++ [(UInt8.ofNat (Int.toNat o24.1))]))), ((.vec 3 (o24.2.length + 1) 1 : AV) = .vec 3 ((o24.2 ++ [(UInt8.ofNat (Int.toNat o24.1))]).length) 1)]) (by kernel_rfl) (by kernel_rfl) ⟨rfl, (tollwayref02_Copy_ret b_0 r1 h2), (decide_eq_false c3), h22, h23, rfl, rfl, rfl, (tollwayref02_PutInt_L24_does hl24), h35, (Nat.le_of_ble_eq_true rfl), u8s_length, rfl, h36, (u8s_snoc (congrArg (fun q => [q]) (u8_of h35))), ok1 (by simp)⟩
theorem tollwayref02_PutInt_ret (b_0 : (List UInt8)) (n_1 : Int) (r : (List UInt8)) (h : tollwayref02_PutInt b_0 n_1 = some r) : Ret Try.prog G0 75 [.lst (u8s b_0) b_0.length, .int .i64 n_1] (.vec 0 r.length 1) [{ c := (u8s r), e := 5, ext := true, fz := 0, pl := true, o := true }] := by
  unfold tollwayref02_PutInt at h
  obtain ⟨r1, h2, h⟩ := bind_some h
  rcases ite_some h with ⟨c3, h⟩ | ⟨c3, h⟩
  · obtain ⟨h4, h⟩ := guard_some h
    obtain ⟨h5, h⟩ := guard_some h
    obtain ⟨h6, h⟩ := guard_some h
    obtain ⟨h7, h⟩ := guard_some h
    obtain ⟨h8, h⟩ := guard_some h
    obtain ⟨o9, hl9, h⟩ := bind_some h
    obtain ⟨h20, h⟩ := guard_some h
    obtain ⟨h21, h⟩ := guard_some h
    simp only [Option.some.injEq] at h
    subst h
    exact tollwayref02_PutInt_0 b_0 n_1 r1 h2 c3 h4 h5 h6 h7 h8 o9 hl9 h20 h21
  · obtain ⟨h22, h⟩ := guard_some h
    obtain ⟨h23, h⟩ := guard_some h
    obtain ⟨o24, hl24, h⟩ := bind_some h
    obtain ⟨h35, h⟩ := guard_some h
    obtain ⟨h36, h⟩ := guard_some h
    simp only [Option.some.injEq] at h
    subst h
    exact tollwayref02_PutInt_1 b_0 n_1 r1 h2 c3 h22 h23 o24 hl24 h35 h36
noncomputable def tollwayref02_PutText_L3_step (s_1 : (List UInt8)) : (Nat × (List UInt8)) → Option ((Nat × (List UInt8)) ⊕ (List UInt8))
  | (k6, b0) =>
    if (↑k6 : Int) < (↑s_1.length : Int) then
      (s_1[k6]?).bind fun x10 =>
      if b0.length + 1 ≤ 4294967296 then
        if InR .i64 ((↑k6 : Int) + 1) then
          some (Sum.inl ((k6 + 1), (b0 ++ [x10])))
        else none
      else none
    else
      some (Sum.inr b0)
def tollwayref02_PutText_L3_H (s_1 : (List UInt8)) : (Nat × (List UInt8)) → St := fun (s : (Nat × (List UInt8))) => S 24 [(1, .str s_1), (5, .vec 0 s.2.length 1), (6, .int .i64 (↑s.1 : Int))] [{ c := (u8s s.2), e := 5, ext := true, fz := 0, pl := true, o := true }]
theorem tollwayref02_PutText_L3_0 (s_1 : (List UInt8)) (k6 : Nat) (b0 : (List UInt8)) (c9 : (↑k6 : Int) < (↑s_1.length : Int)) (x10 : UInt8) (h11 : s_1[k6]? = some x10) (h12 : b0.length + 1 ≤ 4294967296) (h13 : InR .i64 ((↑k6 : Int) + 1)) : Does Try.prog G0 0 (bodyAt Try.prog 70 [1, 1, 0, 1, 0, 0]) (tollwayref02_PutText_L3_H s_1 (k6, b0)) .normal (S 24 [(1, .str s_1), (5, .vec 0 ((b0 ++ [x10]).length) 1), (6, .int .i64 ((↑k6 : Int) + 1))] [{ c := (u8s (b0 ++ [x10])), e := 5, ext := true, fz := 0, pl := true, o := true }]) :=
  Does.of_viewM 0 400 (cs 3 ((.op none .a) :: (.br true) :: (cs 3 ((.op none (.i k6)) :: (.tr (.eqt (.t 20) (.int .u8 (x10.toNat : Int)))) :: (.op none .c) :: (.op none (.ap 4)) :: (.tr (.eqc 2 (u8s (b0 ++ [x10])))) :: (.tr (.eqt (.t 22) (.vec 2 ((b0 ++ [x10]).length) 1))) :: (cs 2 [.op none .w, .op none .c]))))) [2] (ps := [((decide ((↑k6 : Int) < (↑s_1.length : Int))) = true), ((↑k6 : Int) = ((k6 : Nat) : Int) ∧ k6 < s_1.length), ((.int .u8 ((List.getD s_1 k6 0).toNat : Int) : AV) = .int .u8 (x10.toNat : Int)), (0 + 1 ≤ List.length ([.int .u8 (x10.toNat : Int)] : List AV)), (List.length ((u8s b0) : List AV) = b0.length), (List.all ([.int .u8 (x10.toNat : Int)] : List AV) AV.one = true), (b0.length + 1 ≤ 4294967296), ((u8s b0) ++ [.int .u8 (x10.toNat : Int)] = (u8s (b0 ++ [x10]))), ((.vec 2 (b0.length + 1) 1 : AV) = .vec 2 ((b0 ++ [x10]).length) 1), (IntKind.min .i64 ≤ ((↑k6 : Int) + 1) ∧ ((↑k6 : Int) + 1) ≤ IntKind.max .i64)]) (by kernel_rfl) (by kernel_rfl) ⟨(decide_eq_true c9), ⟨rfl, get_lt h11⟩, (getD_u8 h11), (Nat.le_of_ble_eq_true rfl), u8s_length, rfl, h12, (u8s_snoc rfl), (by simp), ok1 h13⟩
theorem tollwayref02_PutText_L3_1 (s_1 : (List UInt8)) (k6 : Nat) (b0 : (List UInt8)) (c9 : ¬ ((↑k6 : Int) < (↑s_1.length : Int))) : Does Try.prog G0 0 (bodyAt Try.prog 70 [1, 1, 0, 1, 0, 0]) (tollwayref02_PutText_L3_H s_1 (k6, b0)) (.exit 0) (S 24 [(5, .vec 0 b0.length 1)] [{ c := (u8s b0), e := 5, ext := true, fz := 0, pl := true, o := true }]) :=
  Does.of_viewM 0 400 (cs 3 [.op none .a, .br false]) [0] (ps := [((decide ((↑k6 : Int) < (↑s_1.length : Int))) = false)]) (by kernel_rfl) (by kernel_rfl) (ok1 (decide_eq_false c9))
def tollwayref02_PutText_L3_X (s_1 : (List UInt8)) : (List UInt8) → AEx := fun o => (.exit 0)
def tollwayref02_PutText_L3_E (s_1 : (List UInt8)) : (List UInt8) → St := fun o => S 24 [(5, .vec 0 o.length 1)] [{ c := (u8s o), e := 5, ext := true, fz := 0, pl := true, o := true }]
theorem tollwayref02_PutText_L3_does (s_1 : (List UInt8)) {s : (Nat × (List UInt8))} {r : (List UInt8)} (h : lp (tollwayref02_PutText_L3_step s_1) s = some r) : Does Try.prog G0 0 (.loop (bodyAt Try.prog 70 [1, 1, 0, 1, 0, 0])) (tollwayref02_PutText_L3_H s_1 s) (tollwayref02_PutText_L3_X s_1 r) (tollwayref02_PutText_L3_E s_1 r) := by
  refine Does.lp (H := tollwayref02_PutText_L3_H s_1) (X := tollwayref02_PutText_L3_X s_1) (E := tollwayref02_PutText_L3_E s_1) (fun s s2 h => ?_) (fun s r h => ?_) h
  · obtain ⟨k6, b0⟩ := s
    unfold tollwayref02_PutText_L3_step at h
    try dsimp only at h
    rcases ite_some h with ⟨c9, h⟩ | ⟨c9, h⟩
    · obtain ⟨x10, h11, h⟩ := bind_some h
      obtain ⟨h12, h⟩ := guard_some h
      obtain ⟨h13, h⟩ := guard_some h
      simp only [Option.some.injEq, Sum.inl.injEq] at h
      subst h
      exact tollwayref02_PutText_L3_0 s_1 k6 b0 c9 x10 h11 h12 h13
    · simp at h
  · obtain ⟨k6, b0⟩ := s
    unfold tollwayref02_PutText_L3_step at h
    try dsimp only at h
    rcases ite_some h with ⟨c9, h⟩ | ⟨c9, h⟩
    · obtain ⟨x10, h11, h⟩ := bind_some h
      obtain ⟨h12, h⟩ := guard_some h
      obtain ⟨h13, h⟩ := guard_some h
      simp at h
    · simp only [Option.some.injEq, Sum.inr.injEq] at h
      subst h
      exact ⟨tollwayref02_PutText_L3_1 s_1 k6 b0 c9, by intro q; cases q⟩
noncomputable def tollwayref02_PutText (b_0 : (List UInt8)) (s_1 : (List UInt8)) : Option (List UInt8) :=
  (tollwayref02_PutInt b_0 (↑s_1.length : Int)).bind fun r1 =>
  (lp (tollwayref02_PutText_L3_step s_1) ((0 : Nat), r1)).bind fun o3 =>
  some o3
theorem tollwayref02_PutText_0 (b_0 : (List UInt8)) (s_1 : (List UInt8)) (r1 : (List UInt8)) (h2 : tollwayref02_PutInt b_0 (↑s_1.length : Int) = some r1) (o3 : (List UInt8)) (hl3 : lp (tollwayref02_PutText_L3_step s_1) ((0 : Nat), r1) = some o3) : Ret Try.prog G0 70 [.lst (u8s b_0) b_0.length, .str s_1] (.vec 0 o3.length 1) [{ c := (u8s o3), e := 5, ext := true, fz := 0, pl := true, o := true }] :=
  Ret.of_view 400 (cs 4 ((.ret none [.lst (u8s b_0) b_0.length, .int .i64 (↑s_1.length : Int)] (.vec 0 r1.length 1) [{ c := (u8s r1), e := 5, ext := true, fz := 0, pl := true, o := true }]) :: (cs 2 ((.fcut 0 (.exit 0) [(5, .vec 0 o3.length 1)] [{ c := (u8s o3), e := 5, ext := true, fz := 0, pl := true, o := true }] [0] [(1, .str s_1), (5, .vec 0 r1.length 1), (6, .int .i64 (↑(0 : Nat) : Int))] [{ c := (u8s r1), e := 5, ext := true, fz := 0, pl := true, o := true }]) :: (cs 2 []))))) [1] (ps := [((.lst (u8s b_0) b_0.length : AV) = .lst (u8s b_0) b_0.length), ((.int .i64 (↑s_1.length : Int) : AV) = .int .i64 (↑s_1.length : Int)), (Ret Try.prog G0 75 [.lst (u8s b_0) b_0.length, .int .i64 (↑s_1.length : Int)] (.vec 0 r1.length 1) [{ c := (u8s r1), e := 5, ext := true, fz := 0, pl := true, o := true }]), ((.str s_1 : AV) = .str s_1), ((.vec 0 r1.length 1 : AV) = .vec 0 r1.length 1), ((.int .i64 0 : AV) = .int .i64 (↑(0 : Nat) : Int)), (({ c := (u8s r1), e := 5, ext := true, fz := 0, pl := true, o := true } : Blk) = renB [0] { c := (u8s r1), e := 5, ext := true, fz := 0, pl := true, o := true }), (Does Try.prog G0 0 (.loop (bodyAt Try.prog 70 [1, 1, 0, 1, 0, 0])) (S 24 [(1, .str s_1), (5, .vec 0 r1.length 1), (6, .int .i64 (↑(0 : Nat) : Int))] [{ c := (u8s r1), e := 5, ext := true, fz := 0, pl := true, o := true }]) (.exit 0) (S 24 [(5, .vec 0 o3.length 1)] [{ c := (u8s o3), e := 5, ext := true, fz := 0, pl := true, o := true }]))]) (by kernel_rfl) (by kernel_rfl) ⟨rfl, rfl, (tollwayref02_PutInt_ret b_0 (↑s_1.length : Int) r1 h2), rfl, rfl, rfl, rfl, ok1 (tollwayref02_PutText_L3_does s_1 hl3)⟩
theorem tollwayref02_PutText_ret (b_0 : (List UInt8)) (s_1 : (List UInt8)) (r : (List UInt8)) (h : tollwayref02_PutText b_0 s_1 = some r) : Ret Try.prog G0 70 [.lst (u8s b_0) b_0.length, .str s_1] (.vec 0 r.length 1) [{ c := (u8s r), e := 5, ext := true, fz := 0, pl := true, o := true }] := by
  unfold tollwayref02_PutText at h
  obtain ⟨r1, h2, h⟩ := bind_some h
  obtain ⟨o3, hl3, h⟩ := bind_some h
  simp only [Option.some.injEq] at h
  subst h
  exact tollwayref02_PutText_0 b_0 s_1 r1 h2 o3 hl3
noncomputable def tollwayref02_Sum_L30_step (b_0 : (List UInt8)) (v3 : Int) (k4 : Nat) : (Int × Nat) → Option ((Int × Nat) ⊕ Int)
  | (v3, k5) =>
    if (↑k5 : Int) < (8 : Int) then
      if InR .u32 (Int.tdiv v3 2) then
        if (Int.tmod v3 2) = (1 : Int) then
          (some (IntKind.wrap .u32 ((BitVec.ofInt (IntKind.bits .u32) (Int.tdiv v3 2) ^^^ BitVec.ofInt (IntKind.bits .u32) 2197175160).toNat : Int))).bind fun y41 =>
          if InR .i64 ((↑k5 : Int) + 1) then
            some (Sum.inl (y41, (k5 + 1)))
          else none
        else
          if InR .i64 ((↑k5 : Int) + 1) then
            some (Sum.inl ((Int.tdiv v3 2), (k5 + 1)))
          else none
      else none
    else
      some (Sum.inr v3)
def tollwayref02_Sum_L30_H (b_0 : (List UInt8)) (v3 : Int) (k4 : Nat) : (Int × Nat) → St := fun (s : (Int × Nat)) => S 35 [(0, .lst (u8s b_0) b_0.length), (3, .int .u32 s.1), (4, .int .i64 (↑k4 : Int)), (5, .int .i64 (↑s.2 : Int))] []
theorem tollwayref02_Sum_L30_0 (b_0 : (List UInt8)) (v3 : Int) (k4 : Nat) (v3 : Int) (k5 : Nat) (c38 : (↑k5 : Int) < (8 : Int)) (h39 : InR .u32 (Int.tdiv v3 2)) (c40 : (Int.tmod v3 2) = (1 : Int)) (y41 : Int) (h42 : some (IntKind.wrap .u32 ((BitVec.ofInt (IntKind.bits .u32) (Int.tdiv v3 2) ^^^ BitVec.ofInt (IntKind.bits .u32) 2197175160).toNat : Int)) = some y41) (h43 : InR .i64 ((↑k5 : Int) + 1)) : Does Try.prog G0 0 (bodyAt Try.prog 69 [1, 1, 0, 1, 0, 0, 1, 0, 0, 1, 1, 0, 0]) (tollwayref02_Sum_L30_H b_0 v3 k4 (v3, k5)) .normal (S 35 [(0, .lst (u8s b_0) b_0.length), (3, .int .u32 y41), (4, .int .i64 (↑k4 : Int)), (5, .int .i64 ((↑k5 : Int) + 1))] []) :=
  Does.of_viewM 0 400 ((.op none .c) :: (.op none .a) :: (.br true) :: (.op none .c) :: (.op none .a) :: (cs 2 ((.op none .w) :: (cs 2 ((.op none .a) :: (.br true) :: (.op none .c) :: (.op none .a) :: (.tr (.eqt (.t 31) (.int .u32 y41))) :: (cs 2 [.op none .w, .op none .c])))))) [] (ps := [((decide ((↑k5 : Int) < (8 : Int))) = true), (2 ≠ (0 : Int)), (2 ≠ (0 : Int)), (IntKind.min .u32 ≤ (Int.tdiv v3 2) ∧ (Int.tdiv v3 2) ≤ IntKind.max .u32), (((Int.tmod v3 2) == (1 : Int)) = true), ((.int .u32 (IntKind.wrap .u32 ((BitVec.ofInt (IntKind.bits .u32) (Int.tdiv v3 2) ^^^ BitVec.ofInt (IntKind.bits .u32) 2197175160).toNat : Int)) : AV) = .int .u32 y41), (IntKind.min .i64 ≤ ((↑k5 : Int) + 1) ∧ ((↑k5 : Int) + 1) ≤ IntKind.max .i64)]) (by kernel_rfl) (by kernel_rfl) ⟨(decide_eq_true c38), (by decide), (by decide), h39, (beq_t c40), (congrArg _ (Option.some.inj h42)), ok1 h43⟩
theorem tollwayref02_Sum_L30_1 (b_0 : (List UInt8)) (v3 : Int) (k4 : Nat) (v3 : Int) (k5 : Nat) (c38 : (↑k5 : Int) < (8 : Int)) (h39 : InR .u32 (Int.tdiv v3 2)) (c40 : ¬ ((Int.tmod v3 2) = (1 : Int))) (h44 : InR .i64 ((↑k5 : Int) + 1)) : Does Try.prog G0 0 (bodyAt Try.prog 69 [1, 1, 0, 1, 0, 0, 1, 0, 0, 1, 1, 0, 0]) (tollwayref02_Sum_L30_H b_0 v3 k4 (v3, k5)) .normal (S 35 [(0, .lst (u8s b_0) b_0.length), (3, .int .u32 (Int.tdiv v3 2)), (4, .int .i64 (↑k4 : Int)), (5, .int .i64 ((↑k5 : Int) + 1))] []) :=
  Does.of_viewM 0 400 ((.op none .c) :: (.op none .a) :: (.br true) :: (.op none .c) :: (.op none .a) :: (cs 2 ((.op none .w) :: (cs 2 [.op none .a, .br false, .op none .c, .op none .w, .op none .c])))) [] (ps := [((decide ((↑k5 : Int) < (8 : Int))) = true), (2 ≠ (0 : Int)), (2 ≠ (0 : Int)), (IntKind.min .u32 ≤ (Int.tdiv v3 2) ∧ (Int.tdiv v3 2) ≤ IntKind.max .u32), (((Int.tmod v3 2) == (1 : Int)) = false), (IntKind.min .i64 ≤ ((↑k5 : Int) + 1) ∧ ((↑k5 : Int) + 1) ≤ IntKind.max .i64)]) (by kernel_rfl) (by kernel_rfl) ⟨(decide_eq_true c38), (by decide), (by decide), h39, (beq_f c40), ok1 h44⟩
theorem tollwayref02_Sum_L30_2 (b_0 : (List UInt8)) (v3 : Int) (k4 : Nat) (v3 : Int) (k5 : Nat) (c38 : ¬ ((↑k5 : Int) < (8 : Int))) : Does Try.prog G0 0 (bodyAt Try.prog 69 [1, 1, 0, 1, 0, 0, 1, 0, 0, 1, 1, 0, 0]) (tollwayref02_Sum_L30_H b_0 v3 k4 (v3, k5)) (.exit 2) (S 35 [(0, .lst (u8s b_0) b_0.length), (3, .int .u32 v3), (4, .int .i64 (↑k4 : Int))] []) :=
  Does.of_viewM 0 400 [.op none .c, .op none .a, .br false] [] (ps := [((decide ((↑k5 : Int) < (8 : Int))) = false)]) (by kernel_rfl) (by kernel_rfl) (ok1 (decide_eq_false c38))
def tollwayref02_Sum_L30_X (b_0 : (List UInt8)) (v3 : Int) (k4 : Nat) : Int → AEx := fun o => (.exit 2)
def tollwayref02_Sum_L30_E (b_0 : (List UInt8)) (v3 : Int) (k4 : Nat) : Int → St := fun o => S 35 [(0, .lst (u8s b_0) b_0.length), (3, .int .u32 o), (4, .int .i64 (↑k4 : Int))] []
theorem tollwayref02_Sum_L30_does (b_0 : (List UInt8)) (v3 : Int) (k4 : Nat) {s : (Int × Nat)} {r : Int} (h : lp (tollwayref02_Sum_L30_step b_0 v3 k4) s = some r) : Does Try.prog G0 0 (.loop (bodyAt Try.prog 69 [1, 1, 0, 1, 0, 0, 1, 0, 0, 1, 1, 0, 0])) (tollwayref02_Sum_L30_H b_0 v3 k4 s) (tollwayref02_Sum_L30_X b_0 v3 k4 r) (tollwayref02_Sum_L30_E b_0 v3 k4 r) := by
  refine Does.lp (H := tollwayref02_Sum_L30_H b_0 v3 k4) (X := tollwayref02_Sum_L30_X b_0 v3 k4) (E := tollwayref02_Sum_L30_E b_0 v3 k4) (fun s s2 h => ?_) (fun s r h => ?_) h
  · obtain ⟨v3, k5⟩ := s
    unfold tollwayref02_Sum_L30_step at h
    try dsimp only at h
    rcases ite_some h with ⟨c38, h⟩ | ⟨c38, h⟩
    · obtain ⟨h39, h⟩ := guard_some h
      rcases ite_some h with ⟨c40, h⟩ | ⟨c40, h⟩
      · obtain ⟨y41, h42, h⟩ := bind_some h
        obtain ⟨h43, h⟩ := guard_some h
        simp only [Option.some.injEq, Sum.inl.injEq] at h
        subst h
        exact tollwayref02_Sum_L30_0 b_0 v3 k4 v3 k5 c38 h39 c40 y41 h42 h43
      · obtain ⟨h44, h⟩ := guard_some h
        simp only [Option.some.injEq, Sum.inl.injEq] at h
        subst h
        exact tollwayref02_Sum_L30_1 b_0 v3 k4 v3 k5 c38 h39 c40 h44
    · simp at h
  · obtain ⟨v3, k5⟩ := s
    unfold tollwayref02_Sum_L30_step at h
    try dsimp only at h
    rcases ite_some h with ⟨c38, h⟩ | ⟨c38, h⟩
    · obtain ⟨h39, h⟩ := guard_some h
      rcases ite_some h with ⟨c40, h⟩ | ⟨c40, h⟩
      · obtain ⟨y41, h42, h⟩ := bind_some h
        obtain ⟨h43, h⟩ := guard_some h
        simp at h
      · obtain ⟨h44, h⟩ := guard_some h
        simp at h
    · simp only [Option.some.injEq, Sum.inr.injEq] at h
      subst h
      exact ⟨tollwayref02_Sum_L30_2 b_0 v3 k4 v3 k5 c38, by intro q; cases q⟩
noncomputable def tollwayref02_Sum_L1_step (b_0 : (List UInt8)) : (Int × Nat) → Option ((Int × Nat) ⊕ Int)
  | (v3, k4) =>
    if (↑k4 : Int) < (↑b_0.length : Int) then
      (b_0[k4]?).bind fun x25 =>
      if InR .u32 ((x25.toNat : Int)) then
        (some (IntKind.wrap .u32 ((BitVec.ofInt (IntKind.bits .u32) v3 ^^^ BitVec.ofInt (IntKind.bits .u32) (x25.toNat : Int)).toNat : Int))).bind fun y28 =>
        (lp (tollwayref02_Sum_L30_step b_0 v3 k4) (y28, (0 : Nat))).bind fun o30 =>
        if InR .i64 ((↑k4 : Int) + 1) then
          some (Sum.inl (o30, (k4 + 1)))
        else none
      else none
    else
      some (Sum.inr v3)
def tollwayref02_Sum_L1_H (b_0 : (List UInt8)) : (Int × Nat) → St := fun (s : (Int × Nat)) => S 35 [(0, .lst (u8s b_0) b_0.length), (3, .int .u32 s.1), (4, .int .i64 (↑s.2 : Int))] []
theorem tollwayref02_Sum_L1_0 (b_0 : (List UInt8)) (v3 : Int) (k4 : Nat) (c24 : (↑k4 : Int) < (↑b_0.length : Int)) (x25 : UInt8) (h26 : b_0[k4]? = some x25) (h27 : InR .u32 ((x25.toNat : Int))) (y28 : Int) (h29 : some (IntKind.wrap .u32 ((BitVec.ofInt (IntKind.bits .u32) v3 ^^^ BitVec.ofInt (IntKind.bits .u32) (x25.toNat : Int)).toNat : Int)) = some y28) (o30 : Int) (hl30 : lp (tollwayref02_Sum_L30_step b_0 v3 k4) (y28, (0 : Nat)) = some o30) (h45 : InR .i64 ((↑k4 : Int) + 1)) : Does Try.prog G0 0 (bodyAt Try.prog 69 [1, 1, 0, 1, 0, 0]) (tollwayref02_Sum_L1_H b_0 (v3, k4)) .normal (S 35 [(0, .lst (u8s b_0) b_0.length), (3, .int .u32 o30), (4, .int .i64 ((↑k4 : Int) + 1))] []) :=
  Does.of_viewM 0 400 (cs 3 ((.op none .a) :: (.br true) :: (cs 3 ((.op none (.i k4)) :: (.op none (.v [.int .u8 (x25.toNat : Int)])) :: (.op none .w) :: (.op none .a) :: (.tr (.eqt (.t 19) (.int .u32 y28))) :: (cs 2 [.fcut 0 (.exit 2) [(0, .lst (u8s b_0) b_0.length), (3, .int .u32 o30), (4, .int .i64 (↑k4 : Int))] [] [] [(0, .lst (u8s b_0) b_0.length), (3, .int .u32 y28), (4, .int .i64 (↑k4 : Int)), (5, .int .i64 (↑(0 : Nat) : Int))] [], .op none .c, .op none .w, .op none .c]))))) [] (ps := [((decide ((↑k4 : Int) < (↑b_0.length : Int))) = true), ((↑k4 : Int) = ((k4 : Nat) : Int) ∧ k4 < b_0.length), ((u8s b_0) ≠ []), (sub (u8s b_0) k4 1 = [.int .u8 (x25.toNat : Int)]), (IntKind.min .u32 ≤ (x25.toNat : Int) ∧ (x25.toNat : Int) ≤ IntKind.max .u32), ((.int .u32 (IntKind.wrap .u32 ((BitVec.ofInt (IntKind.bits .u32) v3 ^^^ BitVec.ofInt (IntKind.bits .u32) (x25.toNat : Int)).toNat : Int)) : AV) = .int .u32 y28), ((.lst (u8s b_0) b_0.length : AV) = .lst (u8s b_0) b_0.length), ((.int .u32 y28 : AV) = .int .u32 y28), ((.int .i64 (↑k4 : Int) : AV) = .int .i64 (↑k4 : Int)), ((.int .i64 0 : AV) = .int .i64 (↑(0 : Nat) : Int)), (Does Try.prog G0 0 (.loop (bodyAt Try.prog 69 [1, 1, 0, 1, 0, 0, 1, 0, 0, 1, 1, 0, 0])) (S 35 [(0, .lst (u8s b_0) b_0.length), (3, .int .u32 y28), (4, .int .i64 (↑k4 : Int)), (5, .int .i64 (↑(0 : Nat) : Int))] []) (.exit 2) (S 35 [(0, .lst (u8s b_0) b_0.length), (3, .int .u32 o30), (4, .int .i64 (↑k4 : Int))] [])), (IntKind.min .i64 ≤ ((↑k4 : Int) + 1) ∧ ((↑k4 : Int) + 1) ≤ IntKind.max .i64)]) (by kernel_rfl) (by kernel_rfl) ⟨(decide_eq_true c24), ⟨rfl, get_lt h26⟩, (u8s_ne h26), (u8s_sub1 h26), h27, (congrArg _ (Option.some.inj h29)), rfl, rfl, rfl, rfl, (tollwayref02_Sum_L30_does b_0 v3 k4 hl30), ok1 h45⟩
theorem tollwayref02_Sum_L1_1 (b_0 : (List UInt8)) (v3 : Int) (k4 : Nat) (c24 : ¬ ((↑k4 : Int) < (↑b_0.length : Int))) : Does Try.prog G0 0 (bodyAt Try.prog 69 [1, 1, 0, 1, 0, 0]) (tollwayref02_Sum_L1_H b_0 (v3, k4)) (.exit 0) (S 35 [(3, .int .u32 v3)] []) :=
  Does.of_viewM 0 400 (cs 3 [.op none .a, .br false]) [] (ps := [((decide ((↑k4 : Int) < (↑b_0.length : Int))) = false)]) (by kernel_rfl) (by kernel_rfl) (ok1 (decide_eq_false c24))
def tollwayref02_Sum_L1_X (b_0 : (List UInt8)) : Int → AEx := fun o => (.exit 0)
def tollwayref02_Sum_L1_E (b_0 : (List UInt8)) : Int → St := fun o => S 35 [(3, .int .u32 o)] []
theorem tollwayref02_Sum_L1_does (b_0 : (List UInt8)) {s : (Int × Nat)} {r : Int} (h : lp (tollwayref02_Sum_L1_step b_0) s = some r) : Does Try.prog G0 0 (.loop (bodyAt Try.prog 69 [1, 1, 0, 1, 0, 0])) (tollwayref02_Sum_L1_H b_0 s) (tollwayref02_Sum_L1_X b_0 r) (tollwayref02_Sum_L1_E b_0 r) := by
  refine Does.lp (H := tollwayref02_Sum_L1_H b_0) (X := tollwayref02_Sum_L1_X b_0) (E := tollwayref02_Sum_L1_E b_0) (fun s s2 h => ?_) (fun s r h => ?_) h
  · obtain ⟨v3, k4⟩ := s
    unfold tollwayref02_Sum_L1_step at h
    try dsimp only at h
    rcases ite_some h with ⟨c24, h⟩ | ⟨c24, h⟩
    · obtain ⟨x25, h26, h⟩ := bind_some h
      obtain ⟨h27, h⟩ := guard_some h
      obtain ⟨y28, h29, h⟩ := bind_some h
      obtain ⟨o30, hl30, h⟩ := bind_some h
      obtain ⟨h45, h⟩ := guard_some h
      simp only [Option.some.injEq, Sum.inl.injEq] at h
      subst h
      exact tollwayref02_Sum_L1_0 b_0 v3 k4 c24 x25 h26 h27 y28 h29 o30 hl30 h45
    · simp at h
  · obtain ⟨v3, k4⟩ := s
    unfold tollwayref02_Sum_L1_step at h
    try dsimp only at h
    rcases ite_some h with ⟨c24, h⟩ | ⟨c24, h⟩
    · obtain ⟨x25, h26, h⟩ := bind_some h
      obtain ⟨h27, h⟩ := guard_some h
      obtain ⟨y28, h29, h⟩ := bind_some h
      obtain ⟨o30, hl30, h⟩ := bind_some h
      obtain ⟨h45, h⟩ := guard_some h
      simp at h
    · simp only [Option.some.injEq, Sum.inr.injEq] at h
      subst h
      exact ⟨tollwayref02_Sum_L1_1 b_0 v3 k4 c24, by intro q; cases q⟩
noncomputable def tollwayref02_Sum (b_0 : (List UInt8)) : Option Int :=
  (lp (tollwayref02_Sum_L1_step b_0) ((4294967295 : Int), (0 : Nat))).bind fun o1 =>
  (some (IntKind.wrap .u32 ((BitVec.ofInt (IntKind.bits .u32) o1 ^^^ BitVec.ofInt (IntKind.bits .u32) 4294967295).toNat : Int))).bind fun y46 =>
  if InR .i64 (y46) then
    some y46
  else none
theorem tollwayref02_Sum_0 (b_0 : (List UInt8)) (o1 : Int) (hl1 : lp (tollwayref02_Sum_L1_step b_0) ((4294967295 : Int), (0 : Nat)) = some o1) (y46 : Int) (h47 : some (IntKind.wrap .u32 ((BitVec.ofInt (IntKind.bits .u32) o1 ^^^ BitVec.ofInt (IntKind.bits .u32) 4294967295).toNat : Int)) = some y46) (h48 : InR .i64 (y46)) : Ret Try.prog G0 69 [.lst (u8s b_0) b_0.length] (.int .i64 y46) [] :=
  Ret.of_view 400 (cs 3 [.fcut 0 (.exit 0) [(3, .int .u32 o1)] [] [] [(0, .lst (u8s b_0) b_0.length), (3, .int .u32 (4294967295 : Int)), (4, .int .i64 (↑(0 : Nat) : Int))] [], .op none .c, .op none .a, .tr (.eqt (.t 33) (.int .u32 y46)), .op none .w, .op none .c]) [] (ps := [((.lst (u8s b_0) b_0.length : AV) = .lst (u8s b_0) b_0.length), ((.int .u32 4294967295 : AV) = .int .u32 (4294967295 : Int)), ((.int .i64 0 : AV) = .int .i64 (↑(0 : Nat) : Int)), (Does Try.prog G0 0 (.loop (bodyAt Try.prog 69 [1, 1, 0, 1, 0, 0])) (S 35 [(0, .lst (u8s b_0) b_0.length), (3, .int .u32 (4294967295 : Int)), (4, .int .i64 (↑(0 : Nat) : Int))] []) (.exit 0) (S 35 [(3, .int .u32 o1)] [])), ((.int .u32 (IntKind.wrap .u32 ((BitVec.ofInt (IntKind.bits .u32) o1 ^^^ BitVec.ofInt (IntKind.bits .u32) 4294967295).toNat : Int)) : AV) = .int .u32 y46), (IntKind.min .i64 ≤ y46 ∧ y46 ≤ IntKind.max .i64)]) (by kernel_rfl) (by kernel_rfl) ⟨rfl, rfl, rfl, (tollwayref02_Sum_L1_does b_0 hl1), (congrArg _ (Option.some.inj h47)), ok1 h48⟩
theorem tollwayref02_Sum_ret (b_0 : (List UInt8)) (r : Int) (h : tollwayref02_Sum b_0 = some r) : Ret Try.prog G0 69 [.lst (u8s b_0) b_0.length] (.int .i64 r) [] := by
  unfold tollwayref02_Sum at h
  obtain ⟨o1, hl1, h⟩ := bind_some h
  obtain ⟨y46, h47, h⟩ := bind_some h
  obtain ⟨h48, h⟩ := guard_some h
  simp only [Option.some.injEq] at h
  subst h
  exact tollwayref02_Sum_0 b_0 o1 hl1 y46 h47 h48
noncomputable def tollwayref02_PutFrame (b_0 : (List UInt8)) (kind_1 : Int) (p_2 : (List UInt8)) : Option (List UInt8) :=
  if (Int.tmod kind_1 256) < (0 : Int) then
    if InR .i64 ((Int.tmod kind_1 256) + 256) then
      if InR .u8 ((Int.tmod kind_1 256) + 256) then
        (tollwayref02_PutText ([(UInt8.ofNat (Int.toNat ((Int.tmod kind_1 256) + 256)))] : List UInt8) p_2).bind fun r4 =>
        (tollwayref02_Sum r4).bind fun r6 =>
        if InR .i64 (Int.tdiv r6 16777216) then
          if InR .u8 (Int.tdiv r6 16777216) then
            if InR .i64 (Int.tdiv r6 65536) then
              if InR .u8 (Int.tmod (Int.tdiv r6 65536) 256) then
                if InR .i64 (Int.tdiv r6 256) then
                  if InR .u8 (Int.tmod (Int.tdiv r6 256) 256) then
                    if InR .u8 (Int.tmod r6 256) then
                      if r4.length + 4 ≤ 4294967296 then
                        (tollwayref02_Copy b_0).bind fun r16 =>
                        if r16.length + ((r4 ++ [(UInt8.ofNat (Int.toNat (Int.tdiv r6 16777216))), (UInt8.ofNat (Int.toNat (Int.tmod (Int.tdiv r6 65536) 256))), (UInt8.ofNat (Int.toNat (Int.tmod (Int.tdiv r6 256) 256))), (UInt8.ofNat (Int.toNat (Int.tmod r6 256)))]).length) ≤ 4294967296 then
                          some (r16 ++ (r4 ++ [(UInt8.ofNat (Int.toNat (Int.tdiv r6 16777216))), (UInt8.ofNat (Int.toNat (Int.tmod (Int.tdiv r6 65536) 256))), (UInt8.ofNat (Int.toNat (Int.tmod (Int.tdiv r6 256) 256))), (UInt8.ofNat (Int.toNat (Int.tmod r6 256)))]))
                        else none
                      else none
                    else none
                  else none
                else none
              else none
            else none
          else none
        else none
      else none
    else none
  else
    if InR .u8 (Int.tmod kind_1 256) then
      (tollwayref02_PutText ([(UInt8.ofNat (Int.toNat (Int.tmod kind_1 256)))] : List UInt8) p_2).bind fun r20 =>
      (tollwayref02_Sum r20).bind fun r22 =>
      if InR .i64 (Int.tdiv r22 16777216) then
        if InR .u8 (Int.tdiv r22 16777216) then
          if InR .i64 (Int.tdiv r22 65536) then
            if InR .u8 (Int.tmod (Int.tdiv r22 65536) 256) then
              if InR .i64 (Int.tdiv r22 256) then
                if InR .u8 (Int.tmod (Int.tdiv r22 256) 256) then
                  if InR .u8 (Int.tmod r22 256) then
                    if r20.length + 4 ≤ 4294967296 then
                      (tollwayref02_Copy b_0).bind fun r32 =>
                      if r32.length + ((r20 ++ [(UInt8.ofNat (Int.toNat (Int.tdiv r22 16777216))), (UInt8.ofNat (Int.toNat (Int.tmod (Int.tdiv r22 65536) 256))), (UInt8.ofNat (Int.toNat (Int.tmod (Int.tdiv r22 256) 256))), (UInt8.ofNat (Int.toNat (Int.tmod r22 256)))]).length) ≤ 4294967296 then
                        some (r32 ++ (r20 ++ [(UInt8.ofNat (Int.toNat (Int.tdiv r22 16777216))), (UInt8.ofNat (Int.toNat (Int.tmod (Int.tdiv r22 65536) 256))), (UInt8.ofNat (Int.toNat (Int.tmod (Int.tdiv r22 256) 256))), (UInt8.ofNat (Int.toNat (Int.tmod r22 256)))]))
                      else none
                    else none
                  else none
                else none
              else none
            else none
          else none
        else none
      else none
    else none
theorem tollwayref02_PutFrame_0 (b_0 : (List UInt8)) (kind_1 : Int) (p_2 : (List UInt8)) (c1 : (Int.tmod kind_1 256) < (0 : Int)) (h2 : InR .i64 ((Int.tmod kind_1 256) + 256)) (h3 : InR .u8 ((Int.tmod kind_1 256) + 256)) (r4 : (List UInt8)) (h5 : tollwayref02_PutText ([(UInt8.ofNat (Int.toNat ((Int.tmod kind_1 256) + 256)))] : List UInt8) p_2 = some r4) (r6 : Int) (h7 : tollwayref02_Sum r4 = some r6) (h8 : InR .i64 (Int.tdiv r6 16777216)) (h9 : InR .u8 (Int.tdiv r6 16777216)) (h10 : InR .i64 (Int.tdiv r6 65536)) (h11 : InR .u8 (Int.tmod (Int.tdiv r6 65536) 256)) (h12 : InR .i64 (Int.tdiv r6 256)) (h13 : InR .u8 (Int.tmod (Int.tdiv r6 256) 256)) (h14 : InR .u8 (Int.tmod r6 256)) (h15 : r4.length + 4 ≤ 4294967296) (r16 : (List UInt8)) (h17 : tollwayref02_Copy b_0 = some r16) (h18 : r16.length + ((r4 ++ [(UInt8.ofNat (Int.toNat (Int.tdiv r6 16777216))), (UInt8.ofNat (Int.toNat (Int.tmod (Int.tdiv r6 65536) 256))), (UInt8.ofNat (Int.toNat (Int.tmod (Int.tdiv r6 256) 256))), (UInt8.ofNat (Int.toNat (Int.tmod r6 256)))]).length) ≤ 4294967296) : Ret Try.prog G0 36 [.lst (u8s b_0) b_0.length, .int .i64 kind_1, .lst (u8s p_2) p_2.length] (.vec 0 ((r16 ++ (r4 ++ [(UInt8.ofNat (Int.toNat (Int.tdiv r6 16777216))), (UInt8.ofNat (Int.toNat (Int.tmod (Int.tdiv r6 65536) 256))), (UInt8.ofNat (Int.toNat (Int.tmod (Int.tdiv r6 256) 256))), (UInt8.ofNat (Int.toNat (Int.tmod r6 256)))])).length) 1) [{ c := (u8s (r16 ++ (r4 ++ [(UInt8.ofNat (Int.toNat (Int.tdiv r6 16777216))), (UInt8.ofNat (Int.toNat (Int.tmod (Int.tdiv r6 65536) 256))), (UInt8.ofNat (Int.toNat (Int.tmod (Int.tdiv r6 256) 256))), (UInt8.ofNat (Int.toNat (Int.tmod r6 256)))]))), e := 5, ext := true, fz := 0, pl := true, o := true }] :=
  Ret.of_view 400 (cs 2 ((.op none .a) :: (cs 2 ((.op none .a) :: (.br true) :: (.op none .c) :: (.op none .w) :: (cs 4 ((.op none .w) :: (.op none .c) :: (.op none (.ap 2)) :: (.op none .c) :: (.op none (.by p_2)) :: (.tr (.eqc 1 (u8s ([(UInt8.ofNat (Int.toNat ((Int.tmod kind_1 256) + 256)))] : List UInt8)))) :: (.ret none [.lst (u8s ([(UInt8.ofNat (Int.toNat ((Int.tmod kind_1 256) + 256)))] : List UInt8)) 1, .str p_2] (.vec 0 r4.length 1) [{ c := (u8s r4), e := 5, ext := true, fz := 0, pl := true, o := true }]) :: (cs 2 ((.ret none [.lst (u8s r4) r4.length] (.int .i64 r6) []) :: (cs 3 ((.op none .w) :: (.op none .w) :: (.op none .c) :: (.op none .w) :: (.op none .a) :: (.op none .w) :: (.op none .c) :: (.op none .w) :: (.op none .a) :: (.op none .w) :: (.op none .c) :: (.op none .a) :: (.op none .w) :: (.op none .c) :: (.op none (.ap 4)) :: (.tr (.eqc 4 (u8s (r4 ++ [(UInt8.ofNat (Int.toNat (Int.tdiv r6 16777216))), (UInt8.ofNat (Int.toNat (Int.tmod (Int.tdiv r6 65536) 256))), (UInt8.ofNat (Int.toNat (Int.tmod (Int.tdiv r6 256) 256))), (UInt8.ofNat (Int.toNat (Int.tmod r6 256)))])))) :: (.tr (.eqt (.t 42) (.vec 4 ((r4 ++ [(UInt8.ofNat (Int.toNat (Int.tdiv r6 16777216))), (UInt8.ofNat (Int.toNat (Int.tmod (Int.tdiv r6 65536) 256))), (UInt8.ofNat (Int.toNat (Int.tmod (Int.tdiv r6 256) 256))), (UInt8.ofNat (Int.toNat (Int.tmod r6 256)))]).length) 1))) :: (cs 2 [.ret none [.lst (u8s b_0) b_0.length] (.vec 0 r16.length 1) [{ c := (u8s r16), e := 5, ext := true, fz := 0, pl := true, o := true }], .op none .c, .op none (.ap 4), .tr (.eqc 6 (u8s (r16 ++ (r4 ++ [(UInt8.ofNat (Int.toNat (Int.tdiv r6 16777216))), (UInt8.ofNat (Int.toNat (Int.tmod (Int.tdiv r6 65536) 256))), (UInt8.ofNat (Int.toNat (Int.tmod (Int.tdiv r6 256) 256))), (UInt8.ofNat (Int.toNat (Int.tmod r6 256)))])))), .tr (.eqt (.t 46) (.vec 6 ((r16 ++ (r4 ++ [(UInt8.ofNat (Int.toNat (Int.tdiv r6 16777216))), (UInt8.ofNat (Int.toNat (Int.tmod (Int.tdiv r6 65536) 256))), (UInt8.ofNat (Int.toNat (Int.tmod (Int.tdiv r6 256) 256))), (UInt8.ofNat (Int.toNat (Int.tmod r6 256)))])).length) 1)), .op none .c]))))))))))) [6] (ps := [(256 ≠ (0 : Int)), ((decide ((Int.tmod kind_1 256) < (0 : Int))) = true), (IntKind.min .i64 ≤ ((Int.tmod kind_1 256) + 256) ∧ ((Int.tmod kind_1 256) + 256) ≤ IntKind.max .i64), (IntKind.min .u8 ≤ ((Int.tmod kind_1 256) + 256) ∧ ((Int.tmod kind_1 256) + 256) ≤ IntKind.max .u8), (0 + 1 ≤ List.length ([.int .u8 ((Int.tmod kind_1 256) + 256)] : List AV)), (0 < 1), (1 ≤ 4294967296), ((some (Ob.blk { c := [.int .u8 ((Int.tmod kind_1 256) + 256)], e := 5, ext := false, fz := 0, pl := true, o := false }) = some (Ob.blk { c := [.int .u8 ((Int.tmod kind_1 256) + 256)], e := 5, ext := false, fz := 0, pl := true, o := false })) ∧ True), (List.length ((u8s p_2) : List AV) = p_2.length), ((u8s p_2) = u8s p_2), ([.int .u8 ((Int.tmod kind_1 256) + 256)] = (u8s ([(UInt8.ofNat (Int.toNat ((Int.tmod kind_1 256) + 256)))] : List UInt8))), (sub (u8s ([(UInt8.ofNat (Int.toNat ((Int.tmod kind_1 256) + 256)))] : List UInt8)) 0 1 = (u8s ([(UInt8.ofNat (Int.toNat ((Int.tmod kind_1 256) + 256)))] : List UInt8)) ∧ 1 = 1 ∧ 0 + 1 ≤ List.length ((u8s ([(UInt8.ofNat (Int.toNat ((Int.tmod kind_1 256) + 256)))] : List UInt8)) : List AV) ∧ 1 ≤ 1), ((.str p_2 : AV) = .str p_2), (datBlks [{ c := (u8s r4), e := 5, ext := true, fz := 0, pl := true, o := true }]), (Ret Try.prog G0 70 [.lst (u8s ([(UInt8.ofNat (Int.toNat ((Int.tmod kind_1 256) + 256)))] : List UInt8)) 1, .str p_2] (.vec 0 r4.length 1) [{ c := (u8s r4), e := 5, ext := true, fz := 0, pl := true, o := true }]), ((some (Ob.blk { c := (u8s ([(UInt8.ofNat (Int.toNat ((Int.tmod kind_1 256) + 256)))] : List UInt8)), e := 5, ext := true, fz := 0, pl := true, o := false }) = some (Ob.blk { c := [.int .u8 ((Int.tmod kind_1 256) + 256)], e := 5, ext := true, fz := 0, pl := true, o := false })) ∧ True), ((u8s r4) = (u8s r4) ∧ r4.length = r4.length ∧ List.length ((u8s r4) : List AV) = r4.length), (datBlks []), (Ret Try.prog G0 69 [.lst (u8s r4) r4.length] (.int .i64 r6) []), (16777216 ≠ (0 : Int)), (IntKind.min .i64 ≤ (Int.tdiv r6 16777216) ∧ (Int.tdiv r6 16777216) ≤ IntKind.max .i64), (IntKind.min .u8 ≤ (Int.tdiv r6 16777216) ∧ (Int.tdiv r6 16777216) ≤ IntKind.max .u8), (65536 ≠ (0 : Int)), (IntKind.min .i64 ≤ (Int.tdiv r6 65536) ∧ (Int.tdiv r6 65536) ≤ IntKind.max .i64), (256 ≠ (0 : Int)), (IntKind.min .u8 ≤ (Int.tmod (Int.tdiv r6 65536) 256) ∧ (Int.tmod (Int.tdiv r6 65536) 256) ≤ IntKind.max .u8), (256 ≠ (0 : Int)), (IntKind.min .i64 ≤ (Int.tdiv r6 256) ∧ (Int.tdiv r6 256) ≤ IntKind.max .i64), (256 ≠ (0 : Int)), (IntKind.min .u8 ≤ (Int.tmod (Int.tdiv r6 256) 256) ∧ (Int.tmod (Int.tdiv r6 256) 256) ≤ IntKind.max .u8), (256 ≠ (0 : Int)), (IntKind.min .u8 ≤ (Int.tmod r6 256) ∧ (Int.tmod r6 256) ≤ IntKind.max .u8), (0 + 4 ≤ List.length ([.int .u8 (Int.tdiv r6 16777216), .int .u8 (Int.tmod (Int.tdiv r6 65536) 256), .int .u8 (Int.tmod (Int.tdiv r6 256) 256), .int .u8 (Int.tmod r6 256)] : List AV)), (List.length ((u8s r4) : List AV) = r4.length), (List.all ([.int .u8 (Int.tdiv r6 16777216), .int .u8 (Int.tmod (Int.tdiv r6 65536) 256), .int .u8 (Int.tmod (Int.tdiv r6 256) 256), .int .u8 (Int.tmod r6 256)] : List AV) AV.one = true), (r4.length + 4 ≤ 4294967296), ((u8s r4) ++ [.int .u8 (Int.tdiv r6 16777216), .int .u8 (Int.tmod (Int.tdiv r6 65536) 256), .int .u8 (Int.tmod (Int.tdiv r6 256) 256), .int .u8 (Int.tmod r6 256)] = (u8s (r4 ++ [(UInt8.ofNat (Int.toNat (Int.tdiv r6 16777216))), (UInt8.ofNat (Int.toNat (Int.tmod (Int.tdiv r6 65536) 256))), (UInt8.ofNat (Int.toNat (Int.tmod (Int.tdiv r6 256) 256))), (UInt8.ofNat (Int.toNat (Int.tmod r6 256)))]))), ((.vec 4 (r4.length + 4) 1 : AV) = .vec 4 ((r4 ++ [(UInt8.ofNat (Int.toNat (Int.tdiv r6 16777216))), (UInt8.ofNat (Int.toNat (Int.tmod (Int.tdiv r6 65536) 256))), (UInt8.ofNat (Int.toNat (Int.tmod (Int.tdiv r6 256) 256))), (UInt8.ofNat (Int.toNat (Int.tmod r6 256)))]).length) 1), ((.lst (u8s b_0) b_0.length : AV) = .lst (u8s b_0) b_0.length), (Ret Try.prog G0 71 [.lst (u8s b_0) b_0.length] (.vec 0 r16.length 1) [{ c := (u8s r16), e := 5, ext := true, fz := 0, pl := true, o := true }]), (List.length ((u8s (r4 ++ [(UInt8.ofNat (Int.toNat (Int.tdiv r6 16777216))), (UInt8.ofNat (Int.toNat (Int.tmod (Int.tdiv r6 65536) 256))), (UInt8.ofNat (Int.toNat (Int.tmod (Int.tdiv r6 256) 256))), (UInt8.ofNat (Int.toNat (Int.tmod r6 256)))])) : List AV) = ((r4 ++ [(UInt8.ofNat (Int.toNat (Int.tdiv r6 16777216))), (UInt8.ofNat (Int.toNat (Int.tmod (Int.tdiv r6 65536) 256))), (UInt8.ofNat (Int.toNat (Int.tmod (Int.tdiv r6 256) 256))), (UInt8.ofNat (Int.toNat (Int.tmod r6 256)))]).length)), (List.length ((u8s r16) : List AV) = r16.length), (List.all ((u8s (r4 ++ [(UInt8.ofNat (Int.toNat (Int.tdiv r6 16777216))), (UInt8.ofNat (Int.toNat (Int.tmod (Int.tdiv r6 65536) 256))), (UInt8.ofNat (Int.toNat (Int.tmod (Int.tdiv r6 256) 256))), (UInt8.ofNat (Int.toNat (Int.tmod r6 256)))])) : List AV) AV.one = true), (r16.length + ((r4 ++ [(UInt8.ofNat (Int.toNat (Int.tdiv r6 16777216))), (UInt8.ofNat (Int.toNat (Int.tmod (Int.tdiv r6 65536) 256))), (UInt8.ofNat (Int.toNat (Int.tmod (Int.tdiv r6 256) 256))), (UInt8.ofNat (Int.toNat (Int.tmod r6 256)))]).length) ≤ 4294967296), ((u8s r16) ++ (u8s (r4 ++ [(UInt8.ofNat (Int.toNat (Int.tdiv r6 16777216))), (UInt8.ofNat (Int.toNat (Int.tmod (Int.tdiv r6 65536) 256))), (UInt8.ofNat (Int.toNat (Int.tmod (Int.tdiv r6 256) 256))), (UInt8.ofNat (Int.toNat (Int.tmod r6 256)))])) = (u8s (r16 ++ (r4 ++ [(UInt8.ofNat (Int.toNat (Int.tdiv r6 16777216))), (UInt8.ofNat (Int.toNat (Int.tmod (Int.tdiv r6 65536) 256))), (UInt8.ofNat (Int.toNat (Int.tmod (Int.tdiv r6 256) 256))), (UInt8.ofNat (Int.toNat (Int.tmod r6 256)))])))), ((.vec 6 (r16.length + ((r4 ++ [(UInt8.ofNat (Int.toNat (Int.tdiv r6 16777216))), (UInt8.ofNat (Int.toNat (Int.tmod (Int.tdiv r6 65536) 256))), (UInt8.ofNat (Int.toNat (Int.tmod (Int.tdiv r6 256) 256))), (UInt8.ofNat (Int.toNat (Int.tmod r6 256)))]).length)) 1 : AV) = .vec 6 ((r16 ++ (r4 ++ [(UInt8.ofNat (Int.toNat (Int.tdiv r6 16777216))), (UInt8.ofNat (Int.toNat (Int.tmod (Int.tdiv r6 65536) 256))), (UInt8.ofNat (Int.toNat (Int.tmod (Int.tdiv r6 256) 256))), (UInt8.ofNat (Int.toNat (Int.tmod r6 256)))])).length) 1)]) (by kernel_rfl) (by kernel_rfl) ⟨(by decide), (decide_eq_true c1), h2, h3, (Nat.le_of_ble_eq_true rfl), (by decide), (by decide), ⟨rfl, trivial⟩, u8s_length, rfl, (by simp only [u8s, List.map, ← u8_of h3]), ⟨rfl, rfl, Nat.le_of_ble_eq_true rfl, Nat.le_of_ble_eq_true rfl⟩, rfl, ⟨u8s_dat, trivial⟩, (tollwayref02_PutText_ret ([(UInt8.ofNat (Int.toNat ((Int.tmod kind_1 256) + 256)))] : List UInt8) p_2 r4 h5), ⟨(congrArg (fun q => some (Ob.blk { c := q, e := 5, ext := true, fz := 0, pl := true, o := false })) (show ([.int .u8 ((Int.tmod kind_1 256) + 256)] : List AV) = (u8s ([(UInt8.ofNat (Int.toNat ((Int.tmod kind_1 256) + 256)))] : List UInt8)) from (by simp only [u8s, List.map, ← u8_of h3])).symm), trivial⟩, ⟨rfl, rfl, u8s_length⟩, trivial, (tollwayref02_Sum_ret r4 r6 h7), (by decide), h8, h9, (by decide), h10, (by decide), h11, (by decide), h12, (by decide), h13, (by decide), h14, (Nat.le_of_ble_eq_true rfl), u8s_length, rfl, h15, (u8s_appc (by simp only [u8s, List.map, ← u8_of h9, ← u8_of h11, ← u8_of h13, ← u8_of h14])), (by simp), rfl, (tollwayref02_Copy_ret b_0 r16 h17), u8s_length, u8s_length, (u8s_one _), h18, u8s_app.symm, ok1 (by simp)⟩
theorem tollwayref02_PutFrame_1 (b_0 : (List UInt8)) (kind_1 : Int) (p_2 : (List UInt8)) (c1 : ¬ ((Int.tmod kind_1 256) < (0 : Int))) (h19 : InR .u8 (Int.tmod kind_1 256)) (r20 : (List UInt8)) (h21 : tollwayref02_PutText ([(UInt8.ofNat (Int.toNat (Int.tmod kind_1 256)))] : List UInt8) p_2 = some r20) (r22 : Int) (h23 : tollwayref02_Sum r20 = some r22) (h24 : InR .i64 (Int.tdiv r22 16777216)) (h25 : InR .u8 (Int.tdiv r22 16777216)) (h26 : InR .i64 (Int.tdiv r22 65536)) (h27 : InR .u8 (Int.tmod (Int.tdiv r22 65536) 256)) (h28 : InR .i64 (Int.tdiv r22 256)) (h29 : InR .u8 (Int.tmod (Int.tdiv r22 256) 256)) (h30 : InR .u8 (Int.tmod r22 256)) (h31 : r20.length + 4 ≤ 4294967296) (r32 : (List UInt8)) (h33 : tollwayref02_Copy b_0 = some r32) (h34 : r32.length + ((r20 ++ [(UInt8.ofNat (Int.toNat (Int.tdiv r22 16777216))), (UInt8.ofNat (Int.toNat (Int.tmod (Int.tdiv r22 65536) 256))), (UInt8.ofNat (Int.toNat (Int.tmod (Int.tdiv r22 256) 256))), (UInt8.ofNat (Int.toNat (Int.tmod r22 256)))]).length) ≤ 4294967296) : Ret Try.prog G0 36 [.lst (u8s b_0) b_0.length, .int .i64 kind_1, .lst (u8s p_2) p_2.length] (.vec 0 ((r32 ++ (r20 ++ [(UInt8.ofNat (Int.toNat (Int.tdiv r22 16777216))), (UInt8.ofNat (Int.toNat (Int.tmod (Int.tdiv r22 65536) 256))), (UInt8.ofNat (Int.toNat (Int.tmod (Int.tdiv r22 256) 256))), (UInt8.ofNat (Int.toNat (Int.tmod r22 256)))])).length) 1) [{ c := (u8s (r32 ++ (r20 ++ [(UInt8.ofNat (Int.toNat (Int.tdiv r22 16777216))), (UInt8.ofNat (Int.toNat (Int.tmod (Int.tdiv r22 65536) 256))), (UInt8.ofNat (Int.toNat (Int.tmod (Int.tdiv r22 256) 256))), (UInt8.ofNat (Int.toNat (Int.tmod r22 256)))]))), e := 5, ext := true, fz := 0, pl := true, o := true }] :=
  Ret.of_view 400 (cs 2 ((.op none .a) :: (cs 2 ((.op none .a) :: (.br false) :: (cs 3 ((.op none .w) :: (.op none .c) :: (.op none (.ap 2)) :: (.op none .c) :: (.op none (.by p_2)) :: (.tr (.eqc 1 (u8s ([(UInt8.ofNat (Int.toNat (Int.tmod kind_1 256)))] : List UInt8)))) :: (.ret none [.lst (u8s ([(UInt8.ofNat (Int.toNat (Int.tmod kind_1 256)))] : List UInt8)) 1, .str p_2] (.vec 0 r20.length 1) [{ c := (u8s r20), e := 5, ext := true, fz := 0, pl := true, o := true }]) :: (cs 2 ((.ret none [.lst (u8s r20) r20.length] (.int .i64 r22) []) :: (cs 3 ((.op none .w) :: (.op none .w) :: (.op none .c) :: (.op none .w) :: (.op none .a) :: (.op none .w) :: (.op none .c) :: (.op none .w) :: (.op none .a) :: (.op none .w) :: (.op none .c) :: (.op none .a) :: (.op none .w) :: (.op none .c) :: (.op none (.ap 4)) :: (.tr (.eqc 4 (u8s (r20 ++ [(UInt8.ofNat (Int.toNat (Int.tdiv r22 16777216))), (UInt8.ofNat (Int.toNat (Int.tmod (Int.tdiv r22 65536) 256))), (UInt8.ofNat (Int.toNat (Int.tmod (Int.tdiv r22 256) 256))), (UInt8.ofNat (Int.toNat (Int.tmod r22 256)))])))) :: (.tr (.eqt (.t 42) (.vec 4 ((r20 ++ [(UInt8.ofNat (Int.toNat (Int.tdiv r22 16777216))), (UInt8.ofNat (Int.toNat (Int.tmod (Int.tdiv r22 65536) 256))), (UInt8.ofNat (Int.toNat (Int.tmod (Int.tdiv r22 256) 256))), (UInt8.ofNat (Int.toNat (Int.tmod r22 256)))]).length) 1))) :: (cs 2 [.ret none [.lst (u8s b_0) b_0.length] (.vec 0 r32.length 1) [{ c := (u8s r32), e := 5, ext := true, fz := 0, pl := true, o := true }], .op none .c, .op none (.ap 4), .tr (.eqc 6 (u8s (r32 ++ (r20 ++ [(UInt8.ofNat (Int.toNat (Int.tdiv r22 16777216))), (UInt8.ofNat (Int.toNat (Int.tmod (Int.tdiv r22 65536) 256))), (UInt8.ofNat (Int.toNat (Int.tmod (Int.tdiv r22 256) 256))), (UInt8.ofNat (Int.toNat (Int.tmod r22 256)))])))), .tr (.eqt (.t 46) (.vec 6 ((r32 ++ (r20 ++ [(UInt8.ofNat (Int.toNat (Int.tdiv r22 16777216))), (UInt8.ofNat (Int.toNat (Int.tmod (Int.tdiv r22 65536) 256))), (UInt8.ofNat (Int.toNat (Int.tmod (Int.tdiv r22 256) 256))), (UInt8.ofNat (Int.toNat (Int.tmod r22 256)))])).length) 1)), .op none .c]))))))))))) [6] (ps := [(256 ≠ (0 : Int)), ((decide ((Int.tmod kind_1 256) < (0 : Int))) = false), (IntKind.min .u8 ≤ (Int.tmod kind_1 256) ∧ (Int.tmod kind_1 256) ≤ IntKind.max .u8), (0 + 1 ≤ List.length ([.int .u8 (Int.tmod kind_1 256)] : List AV)), (0 < 1), (1 ≤ 4294967296), ((some (Ob.blk { c := [.int .u8 (Int.tmod kind_1 256)], e := 5, ext := false, fz := 0, pl := true, o := false }) = some (Ob.blk { c := [.int .u8 (Int.tmod kind_1 256)], e := 5, ext := false, fz := 0, pl := true, o := false })) ∧ True), (List.length ((u8s p_2) : List AV) = p_2.length), ((u8s p_2) = u8s p_2), ([.int .u8 (Int.tmod kind_1 256)] = (u8s ([(UInt8.ofNat (Int.toNat (Int.tmod kind_1 256)))] : List UInt8))), (sub (u8s ([(UInt8.ofNat (Int.toNat (Int.tmod kind_1 256)))] : List UInt8)) 0 1 = (u8s ([(UInt8.ofNat (Int.toNat (Int.tmod kind_1 256)))] : List UInt8)) ∧ 1 = 1 ∧ 0 + 1 ≤ List.length ((u8s ([(UInt8.ofNat (Int.toNat (Int.tmod kind_1 256)))] : List UInt8)) : List AV) ∧ 1 ≤ 1), ((.str p_2 : AV) = .str p_2), (datBlks [{ c := (u8s r20), e := 5, ext := true, fz := 0, pl := true, o := true }]), (Ret Try.prog G0 70 [.lst (u8s ([(UInt8.ofNat (Int.toNat (Int.tmod kind_1 256)))] : List UInt8)) 1, .str p_2] (.vec 0 r20.length 1) [{ c := (u8s r20), e := 5, ext := true, fz := 0, pl := true, o := true }]), ((some (Ob.blk { c := (u8s ([(UInt8.ofNat (Int.toNat (Int.tmod kind_1 256)))] : List UInt8)), e := 5, ext := true, fz := 0, pl := true, o := false }) = some (Ob.blk { c := [.int .u8 (Int.tmod kind_1 256)], e := 5, ext := true, fz := 0, pl := true, o := false })) ∧ True), ((u8s r20) = (u8s r20) ∧ r20.length = r20.length ∧ List.length ((u8s r20) : List AV) = r20.length), (datBlks []), (Ret Try.prog G0 69 [.lst (u8s r20) r20.length] (.int .i64 r22) []), (16777216 ≠ (0 : Int)), (IntKind.min .i64 ≤ (Int.tdiv r22 16777216) ∧ (Int.tdiv r22 16777216) ≤ IntKind.max .i64), (IntKind.min .u8 ≤ (Int.tdiv r22 16777216) ∧ (Int.tdiv r22 16777216) ≤ IntKind.max .u8), (65536 ≠ (0 : Int)), (IntKind.min .i64 ≤ (Int.tdiv r22 65536) ∧ (Int.tdiv r22 65536) ≤ IntKind.max .i64), (256 ≠ (0 : Int)), (IntKind.min .u8 ≤ (Int.tmod (Int.tdiv r22 65536) 256) ∧ (Int.tmod (Int.tdiv r22 65536) 256) ≤ IntKind.max .u8), (256 ≠ (0 : Int)), (IntKind.min .i64 ≤ (Int.tdiv r22 256) ∧ (Int.tdiv r22 256) ≤ IntKind.max .i64), (256 ≠ (0 : Int)), (IntKind.min .u8 ≤ (Int.tmod (Int.tdiv r22 256) 256) ∧ (Int.tmod (Int.tdiv r22 256) 256) ≤ IntKind.max .u8), (256 ≠ (0 : Int)), (IntKind.min .u8 ≤ (Int.tmod r22 256) ∧ (Int.tmod r22 256) ≤ IntKind.max .u8), (0 + 4 ≤ List.length ([.int .u8 (Int.tdiv r22 16777216), .int .u8 (Int.tmod (Int.tdiv r22 65536) 256), .int .u8 (Int.tmod (Int.tdiv r22 256) 256), .int .u8 (Int.tmod r22 256)] : List AV)), (List.length ((u8s r20) : List AV) = r20.length), (List.all ([.int .u8 (Int.tdiv r22 16777216), .int .u8 (Int.tmod (Int.tdiv r22 65536) 256), .int .u8 (Int.tmod (Int.tdiv r22 256) 256), .int .u8 (Int.tmod r22 256)] : List AV) AV.one = true), (r20.length + 4 ≤ 4294967296), ((u8s r20) ++ [.int .u8 (Int.tdiv r22 16777216), .int .u8 (Int.tmod (Int.tdiv r22 65536) 256), .int .u8 (Int.tmod (Int.tdiv r22 256) 256), .int .u8 (Int.tmod r22 256)] = (u8s (r20 ++ [(UInt8.ofNat (Int.toNat (Int.tdiv r22 16777216))), (UInt8.ofNat (Int.toNat (Int.tmod (Int.tdiv r22 65536) 256))), (UInt8.ofNat (Int.toNat (Int.tmod (Int.tdiv r22 256) 256))), (UInt8.ofNat (Int.toNat (Int.tmod r22 256)))]))), ((.vec 4 (r20.length + 4) 1 : AV) = .vec 4 ((r20 ++ [(UInt8.ofNat (Int.toNat (Int.tdiv r22 16777216))), (UInt8.ofNat (Int.toNat (Int.tmod (Int.tdiv r22 65536) 256))), (UInt8.ofNat (Int.toNat (Int.tmod (Int.tdiv r22 256) 256))), (UInt8.ofNat (Int.toNat (Int.tmod r22 256)))]).length) 1), ((.lst (u8s b_0) b_0.length : AV) = .lst (u8s b_0) b_0.length), (Ret Try.prog G0 71 [.lst (u8s b_0) b_0.length] (.vec 0 r32.length 1) [{ c := (u8s r32), e := 5, ext := true, fz := 0, pl := true, o := true }]), (List.length ((u8s (r20 ++ [(UInt8.ofNat (Int.toNat (Int.tdiv r22 16777216))), (UInt8.ofNat (Int.toNat (Int.tmod (Int.tdiv r22 65536) 256))), (UInt8.ofNat (Int.toNat (Int.tmod (Int.tdiv r22 256) 256))), (UInt8.ofNat (Int.toNat (Int.tmod r22 256)))])) : List AV) = ((r20 ++ [(UInt8.ofNat (Int.toNat (Int.tdiv r22 16777216))), (UInt8.ofNat (Int.toNat (Int.tmod (Int.tdiv r22 65536) 256))), (UInt8.ofNat (Int.toNat (Int.tmod (Int.tdiv r22 256) 256))), (UInt8.ofNat (Int.toNat (Int.tmod r22 256)))]).length)), (List.length ((u8s r32) : List AV) = r32.length), (List.all ((u8s (r20 ++ [(UInt8.ofNat (Int.toNat (Int.tdiv r22 16777216))), (UInt8.ofNat (Int.toNat (Int.tmod (Int.tdiv r22 65536) 256))), (UInt8.ofNat (Int.toNat (Int.tmod (Int.tdiv r22 256) 256))), (UInt8.ofNat (Int.toNat (Int.tmod r22 256)))])) : List AV) AV.one = true), (r32.length + ((r20 ++ [(UInt8.ofNat (Int.toNat (Int.tdiv r22 16777216))), (UInt8.ofNat (Int.toNat (Int.tmod (Int.tdiv r22 65536) 256))), (UInt8.ofNat (Int.toNat (Int.tmod (Int.tdiv r22 256) 256))), (UInt8.ofNat (Int.toNat (Int.tmod r22 256)))]).length) ≤ 4294967296), ((u8s r32) ++ (u8s (r20 ++ [(UInt8.ofNat (Int.toNat (Int.tdiv r22 16777216))), (UInt8.ofNat (Int.toNat (Int.tmod (Int.tdiv r22 65536) 256))), (UInt8.ofNat (Int.toNat (Int.tmod (Int.tdiv r22 256) 256))), (UInt8.ofNat (Int.toNat (Int.tmod r22 256)))])) = (u8s (r32 ++ (r20 ++ [(UInt8.ofNat (Int.toNat (Int.tdiv r22 16777216))), (UInt8.ofNat (Int.toNat (Int.tmod (Int.tdiv r22 65536) 256))), (UInt8.ofNat (Int.toNat (Int.tmod (Int.tdiv r22 256) 256))), (UInt8.ofNat (Int.toNat (Int.tmod r22 256)))])))), ((.vec 6 (r32.length + ((r20 ++ [(UInt8.ofNat (Int.toNat (Int.tdiv r22 16777216))), (UInt8.ofNat (Int.toNat (Int.tmod (Int.tdiv r22 65536) 256))), (UInt8.ofNat (Int.toNat (Int.tmod (Int.tdiv r22 256) 256))), (UInt8.ofNat (Int.toNat (Int.tmod r22 256)))]).length)) 1 : AV) = .vec 6 ((r32 ++ (r20 ++ [(UInt8.ofNat (Int.toNat (Int.tdiv r22 16777216))), (UInt8.ofNat (Int.toNat (Int.tmod (Int.tdiv r22 65536) 256))), (UInt8.ofNat (Int.toNat (Int.tmod (Int.tdiv r22 256) 256))), (UInt8.ofNat (Int.toNat (Int.tmod r22 256)))])).length) 1)]) (by kernel_rfl) (by kernel_rfl) ⟨(by decide), (decide_eq_false c1), h19, (Nat.le_of_ble_eq_true rfl), (by decide), (by decide), ⟨rfl, trivial⟩, u8s_length, rfl, (by simp only [u8s, List.map, ← u8_of h19]), ⟨rfl, rfl, Nat.le_of_ble_eq_true rfl, Nat.le_of_ble_eq_true rfl⟩, rfl, ⟨u8s_dat, trivial⟩, (tollwayref02_PutText_ret ([(UInt8.ofNat (Int.toNat (Int.tmod kind_1 256)))] : List UInt8) p_2 r20 h21), ⟨(congrArg (fun q => some (Ob.blk { c := q, e := 5, ext := true, fz := 0, pl := true, o := false })) (show ([.int .u8 (Int.tmod kind_1 256)] : List AV) = (u8s ([(UInt8.ofNat (Int.toNat (Int.tmod kind_1 256)))] : List UInt8)) from (by simp only [u8s, List.map, ← u8_of h19])).symm), trivial⟩, ⟨rfl, rfl, u8s_length⟩, trivial, (tollwayref02_Sum_ret r20 r22 h23), (by decide), h24, h25, (by decide), h26, (by decide), h27, (by decide), h28, (by decide), h29, (by decide), h30, (Nat.le_of_ble_eq_true rfl), u8s_length, rfl, h31, (u8s_appc (by simp only [u8s, List.map, ← u8_of h25, ← u8_of h27, ← u8_of h29, ← u8_of h30])), (by simp), rfl, (tollwayref02_Copy_ret b_0 r32 h33), u8s_length, u8s_length, (u8s_one _), h34, u8s_app.symm, ok1 (by simp)⟩
theorem tollwayref02_PutFrame_ret (b_0 : (List UInt8)) (kind_1 : Int) (p_2 : (List UInt8)) (r : (List UInt8)) (h : tollwayref02_PutFrame b_0 kind_1 p_2 = some r) : Ret Try.prog G0 36 [.lst (u8s b_0) b_0.length, .int .i64 kind_1, .lst (u8s p_2) p_2.length] (.vec 0 r.length 1) [{ c := (u8s r), e := 5, ext := true, fz := 0, pl := true, o := true }] := by
  unfold tollwayref02_PutFrame at h
  rcases ite_some h with ⟨c1, h⟩ | ⟨c1, h⟩
  · obtain ⟨h2, h⟩ := guard_some h
    obtain ⟨h3, h⟩ := guard_some h
    obtain ⟨r4, h5, h⟩ := bind_some h
    obtain ⟨r6, h7, h⟩ := bind_some h
    obtain ⟨h8, h⟩ := guard_some h
    obtain ⟨h9, h⟩ := guard_some h
    obtain ⟨h10, h⟩ := guard_some h
    obtain ⟨h11, h⟩ := guard_some h
    obtain ⟨h12, h⟩ := guard_some h
    obtain ⟨h13, h⟩ := guard_some h
    obtain ⟨h14, h⟩ := guard_some h
    obtain ⟨h15, h⟩ := guard_some h
    obtain ⟨r16, h17, h⟩ := bind_some h
    obtain ⟨h18, h⟩ := guard_some h
    simp only [Option.some.injEq] at h
    subst h
    exact tollwayref02_PutFrame_0 b_0 kind_1 p_2 c1 h2 h3 r4 h5 r6 h7 h8 h9 h10 h11 h12 h13 h14 h15 r16 h17 h18
  · obtain ⟨h19, h⟩ := guard_some h
    obtain ⟨r20, h21, h⟩ := bind_some h
    obtain ⟨r22, h23, h⟩ := bind_some h
    obtain ⟨h24, h⟩ := guard_some h
    obtain ⟨h25, h⟩ := guard_some h
    obtain ⟨h26, h⟩ := guard_some h
    obtain ⟨h27, h⟩ := guard_some h
    obtain ⟨h28, h⟩ := guard_some h
    obtain ⟨h29, h⟩ := guard_some h
    obtain ⟨h30, h⟩ := guard_some h
    obtain ⟨h31, h⟩ := guard_some h
    obtain ⟨r32, h33, h⟩ := bind_some h
    obtain ⟨h34, h⟩ := guard_some h
    simp only [Option.some.injEq] at h
    subst h
    exact tollwayref02_PutFrame_1 b_0 kind_1 p_2 c1 h19 r20 h21 r22 h23 h24 h25 h26 h27 h28 h29 h30 h31 r32 h33 h34
noncomputable def tollwayref02_Same_L2_step (a_0 : (List UInt8)) (b_1 : (List UInt8)) : Nat → Option (Nat ⊕ (Unit ⊕ Unit)) := fun k5 =>
  if (↑k5 : Int) < (↑a_0.length : Int) then
    (a_0[k5]?).bind fun x11 =>
    (b_1[k5]?).bind fun x13 =>
    if (x11.toNat : Int) = (x13.toNat : Int) then
      if InR .i64 ((↑k5 : Int) + 1) then
        some (Sum.inl (k5 + 1))
      else none
    else
      some (Sum.inr (Sum.inl ()))
  else
    some (Sum.inr (Sum.inr (())))
def tollwayref02_Same_L2_H (a_0 : (List UInt8)) (b_1 : (List UInt8)) : Nat → St := fun (s : Nat) => S 26 [(0, .lst (u8s a_0) a_0.length), (1, .lst (u8s b_1) b_1.length), (5, .int .i64 (↑s : Int))] []
theorem tollwayref02_Same_L2_0 (a_0 : (List UInt8)) (b_1 : (List UInt8)) (k5 : Nat) (c10 : (↑k5 : Int) < (↑a_0.length : Int)) (x11 : UInt8) (h12 : a_0[k5]? = some x11) (x13 : UInt8) (h14 : b_1[k5]? = some x13) (c15 : (x11.toNat : Int) = (x13.toNat : Int)) (h16 : InR .i64 ((↑k5 : Int) + 1)) : Does Try.prog G0 0 (bodyAt Try.prog 14 [1, 1, 0, 1, 0, 0]) (tollwayref02_Same_L2_H a_0 b_1 k5) .normal (S 26 [(0, .lst (u8s a_0) a_0.length), (1, .lst (u8s b_1) b_1.length), (5, .int .i64 ((↑k5 : Int) + 1))] []) :=
  Does.of_viewM 0 400 (cs 3 ((.op none .a) :: (.br true) :: (cs 2 ((.op none (.i k5)) :: (.op none (.v [.int .u8 (x11.toNat : Int)])) :: (cs 2 [.op none (.i k5), .op none (.v [.int .u8 (x13.toNat : Int)]), .op none .a, .br false, .op none .c, .op none .w, .op none .c]))))) [] (ps := [((decide ((↑k5 : Int) < (↑a_0.length : Int))) = true), ((↑k5 : Int) = ((k5 : Nat) : Int) ∧ k5 < a_0.length), ((u8s a_0) ≠ []), (sub (u8s a_0) k5 1 = [.int .u8 (x11.toNat : Int)]), ((↑k5 : Int) = ((k5 : Nat) : Int) ∧ k5 < b_1.length), ((u8s b_1) ≠ []), (sub (u8s b_1) k5 1 = [.int .u8 (x13.toNat : Int)]), ((!((x11.toNat : Int) == (x13.toNat : Int))) = false), (IntKind.min .i64 ≤ ((↑k5 : Int) + 1) ∧ ((↑k5 : Int) + 1) ≤ IntKind.max .i64)]) (by kernel_rfl) (by kernel_rfl) ⟨(decide_eq_true c10), ⟨rfl, get_lt h12⟩, (u8s_ne h12), (u8s_sub1 h12), ⟨rfl, get_lt h14⟩, (u8s_ne h14), (u8s_sub1 h14), (not_f (beq_t c15)), ok1 h16⟩
theorem tollwayref02_Same_L2_1 (a_0 : (List UInt8)) (b_1 : (List UInt8)) (k5 : Nat) (c10 : (↑k5 : Int) < (↑a_0.length : Int)) (x11 : UInt8) (h12 : a_0[k5]? = some x11) (x13 : UInt8) (h14 : b_1[k5]? = some x13) (c15 : ¬ ((x11.toNat : Int) = (x13.toNat : Int))) : Does Try.prog G0 0 (bodyAt Try.prog 14 [1, 1, 0, 1, 0, 0]) (tollwayref02_Same_L2_H a_0 b_1 k5) .ret (S 26 [(4, .bool false)] []) :=
  Does.of_viewM 0 400 (cs 3 ((.op none .a) :: (.br true) :: (cs 2 ((.op none (.i k5)) :: (.op none (.v [.int .u8 (x11.toNat : Int)])) :: (cs 2 [.op none (.i k5), .op none (.v [.int .u8 (x13.toNat : Int)]), .op none .a, .br true, .op none .c]))))) [] (ps := [((decide ((↑k5 : Int) < (↑a_0.length : Int))) = true), ((↑k5 : Int) = ((k5 : Nat) : Int) ∧ k5 < a_0.length), ((u8s a_0) ≠ []), (sub (u8s a_0) k5 1 = [.int .u8 (x11.toNat : Int)]), ((↑k5 : Int) = ((k5 : Nat) : Int) ∧ k5 < b_1.length), ((u8s b_1) ≠ []), (sub (u8s b_1) k5 1 = [.int .u8 (x13.toNat : Int)]), ((!((x11.toNat : Int) == (x13.toNat : Int))) = true)]) (by kernel_rfl) (by kernel_rfl) ⟨(decide_eq_true c10), ⟨rfl, get_lt h12⟩, (u8s_ne h12), (u8s_sub1 h12), ⟨rfl, get_lt h14⟩, (u8s_ne h14), (u8s_sub1 h14), ok1 (not_t (beq_f c15))⟩
theorem tollwayref02_Same_L2_2 (a_0 : (List UInt8)) (b_1 : (List UInt8)) (k5 : Nat) (c10 : ¬ ((↑k5 : Int) < (↑a_0.length : Int))) : Does Try.prog G0 0 (bodyAt Try.prog 14 [1, 1, 0, 1, 0, 0]) (tollwayref02_Same_L2_H a_0 b_1 k5) (.exit 0) (S 26 [] []) :=
  Does.of_viewM 0 400 (cs 3 [.op none .a, .br false]) [] (ps := [((decide ((↑k5 : Int) < (↑a_0.length : Int))) = false)]) (by kernel_rfl) (by kernel_rfl) (ok1 (decide_eq_false c10))
def tollwayref02_Same_L2_X (a_0 : (List UInt8)) (b_1 : (List UInt8)) : (Unit ⊕ Unit) → AEx := fun q => match q with | Sum.inl o => .ret | Sum.inr (o) => (.exit 0)
def tollwayref02_Same_L2_E (a_0 : (List UInt8)) (b_1 : (List UInt8)) : (Unit ⊕ Unit) → St := fun q => match q with | Sum.inl o => S 26 [(4, .bool false)] [] | Sum.inr (o) => S 26 [] []
theorem tollwayref02_Same_L2_does (a_0 : (List UInt8)) (b_1 : (List UInt8)) {s : Nat} {r : Unit ⊕ Unit} (h : lp (tollwayref02_Same_L2_step a_0 b_1) s = some r) : Does Try.prog G0 0 (.loop (bodyAt Try.prog 14 [1, 1, 0, 1, 0, 0])) (tollwayref02_Same_L2_H a_0 b_1 s) (tollwayref02_Same_L2_X a_0 b_1 r) (tollwayref02_Same_L2_E a_0 b_1 r) := by
  refine Does.lp (H := tollwayref02_Same_L2_H a_0 b_1) (X := tollwayref02_Same_L2_X a_0 b_1) (E := tollwayref02_Same_L2_E a_0 b_1) (fun s s2 h => ?_) (fun s r h => ?_) h
  · revert h; revert s; intro k5 h
    unfold tollwayref02_Same_L2_step at h
    try dsimp only at h
    rcases ite_some h with ⟨c10, h⟩ | ⟨c10, h⟩
    · obtain ⟨x11, h12, h⟩ := bind_some h
      obtain ⟨x13, h14, h⟩ := bind_some h
      rcases ite_some h with ⟨c15, h⟩ | ⟨c15, h⟩
      · obtain ⟨h16, h⟩ := guard_some h
        simp only [Option.some.injEq, Sum.inl.injEq] at h
        subst h
        exact tollwayref02_Same_L2_0 a_0 b_1 k5 c10 x11 h12 x13 h14 c15 h16
      · simp at h
    · simp at h
  · revert h; revert s; intro k5 h
    unfold tollwayref02_Same_L2_step at h
    try dsimp only at h
    rcases ite_some h with ⟨c10, h⟩ | ⟨c10, h⟩
    · obtain ⟨x11, h12, h⟩ := bind_some h
      obtain ⟨x13, h14, h⟩ := bind_some h
      rcases ite_some h with ⟨c15, h⟩ | ⟨c15, h⟩
      · obtain ⟨h16, h⟩ := guard_some h
        simp at h
      · simp only [Option.some.injEq, Sum.inr.injEq] at h
        subst h
        exact ⟨tollwayref02_Same_L2_1 a_0 b_1 k5 c10 x11 h12 x13 h14 c15, by intro q; cases q⟩
    · simp only [Option.some.injEq, Sum.inr.injEq] at h
      subst h
      exact ⟨tollwayref02_Same_L2_2 a_0 b_1 k5 c10, by intro q; cases q⟩
noncomputable def tollwayref02_Same (a_0 : (List UInt8)) (b_1 : (List UInt8)) : Option Bool :=
  if (↑a_0.length : Int) = (↑b_1.length : Int) then
    (lp (tollwayref02_Same_L2_step a_0 b_1) (0 : Nat)).bind fun qq => match qq with
    | Sum.inl o2 =>
      some false
    | Sum.inr (o2) =>
      some true
  else
    some false
theorem tollwayref02_Same_0 (a_0 : (List UInt8)) (b_1 : (List UInt8)) (c1 : (↑a_0.length : Int) = (↑b_1.length : Int)) (o2 : Unit) (hl2 : lp (tollwayref02_Same_L2_step a_0 b_1) (0 : Nat) = some (Sum.inl o2)) : Ret Try.prog G0 14 [.lst (u8s a_0) a_0.length, .lst (u8s b_1) b_1.length] (.bool false) [] :=
  Ret.of_view 400 (cs 5 [.op none .a, .br false, .op none .c, .fcut 0 .ret [(4, .bool false)] [] [] [(0, .lst (u8s a_0) a_0.length), (1, .lst (u8s b_1) b_1.length), (5, .int .i64 (↑(0 : Nat) : Int))] []]) [] (ps := [((!((↑a_0.length : Int) == (↑b_1.length : Int))) = false), ((.lst (u8s a_0) a_0.length : AV) = .lst (u8s a_0) a_0.length), ((.lst (u8s b_1) b_1.length : AV) = .lst (u8s b_1) b_1.length), ((.int .i64 0 : AV) = .int .i64 (↑(0 : Nat) : Int)), (Does Try.prog G0 0 (.loop (bodyAt Try.prog 14 [1, 1, 0, 1, 0, 0])) (S 26 [(0, .lst (u8s a_0) a_0.length), (1, .lst (u8s b_1) b_1.length), (5, .int .i64 (↑(0 : Nat) : Int))] []) .ret (S 26 [(4, .bool false)] []))]) (by kernel_rfl) (by kernel_rfl) ⟨(not_f (beq_t c1)), rfl, rfl, rfl, ok1 (tollwayref02_Same_L2_does a_0 b_1 hl2)⟩
theorem tollwayref02_Same_1 (a_0 : (List UInt8)) (b_1 : (List UInt8)) (c1 : (↑a_0.length : Int) = (↑b_1.length : Int)) (o2 : Unit) (hl2 : lp (tollwayref02_Same_L2_step a_0 b_1) (0 : Nat) = some (Sum.inr (o2))) : Ret Try.prog G0 14 [.lst (u8s a_0) a_0.length, .lst (u8s b_1) b_1.length] (.bool true) [] :=
  Ret.of_view 400 (cs 5 [.op none .a, .br false, .op none .c, .fcut 0 (.exit 0) [] [] [] [(0, .lst (u8s a_0) a_0.length), (1, .lst (u8s b_1) b_1.length), (5, .int .i64 (↑(0 : Nat) : Int))] [], .op none .c]) [] (ps := [((!((↑a_0.length : Int) == (↑b_1.length : Int))) = false), ((.lst (u8s a_0) a_0.length : AV) = .lst (u8s a_0) a_0.length), ((.lst (u8s b_1) b_1.length : AV) = .lst (u8s b_1) b_1.length), ((.int .i64 0 : AV) = .int .i64 (↑(0 : Nat) : Int)), (Does Try.prog G0 0 (.loop (bodyAt Try.prog 14 [1, 1, 0, 1, 0, 0])) (S 26 [(0, .lst (u8s a_0) a_0.length), (1, .lst (u8s b_1) b_1.length), (5, .int .i64 (↑(0 : Nat) : Int))] []) (.exit 0) (S 26 [] []))]) (by kernel_rfl) (by kernel_rfl) ⟨(not_f (beq_t c1)), rfl, rfl, rfl, ok1 (tollwayref02_Same_L2_does a_0 b_1 hl2)⟩
theorem tollwayref02_Same_2 (a_0 : (List UInt8)) (b_1 : (List UInt8)) (c1 : ¬ ((↑a_0.length : Int) = (↑b_1.length : Int))) : Ret Try.prog G0 14 [.lst (u8s a_0) a_0.length, .lst (u8s b_1) b_1.length] (.bool false) [] :=
  Ret.of_view 400 (cs 5 [.op none .a, .br true, .op none .c]) [] (ps := [((!((↑a_0.length : Int) == (↑b_1.length : Int))) = true)]) (by kernel_rfl) (by kernel_rfl) (ok1 (not_t (beq_f c1)))
theorem tollwayref02_Same_ret (a_0 : (List UInt8)) (b_1 : (List UInt8)) (r : Bool) (h : tollwayref02_Same a_0 b_1 = some r) : Ret Try.prog G0 14 [.lst (u8s a_0) a_0.length, .lst (u8s b_1) b_1.length] (.bool r) [] := by
  unfold tollwayref02_Same at h
  rcases ite_some h with ⟨c1, h⟩ | ⟨c1, h⟩
  · obtain ⟨qq, hl2, h⟩ := bind_some h
    rcases qq with o2 | o2
    · dsimp only at h
      simp only [Option.some.injEq] at h
      subst h
      exact tollwayref02_Same_0 a_0 b_1 c1 o2 hl2
    · dsimp only at h
      simp only [Option.some.injEq] at h
      subst h
      exact tollwayref02_Same_1 a_0 b_1 c1 o2 hl2
  · simp only [Option.some.injEq] at h
    subst h
    exact tollwayref02_Same_2 a_0 b_1 c1
noncomputable def codec_Sum_L30_step (b_0 : (List UInt8)) (v3 : Int) (k9 : Nat) : (Int × Nat) → Option ((Int × Nat) ⊕ Int)
  | (v3, k17) =>
    if (↑k17 : Int) < (8 : Int) then
      if InR .u32 (Int.tdiv v3 2) then
        if (Int.tmod v3 2) = (1 : Int) then
          (some (IntKind.wrap .u32 ((BitVec.ofInt (IntKind.bits .u32) (Int.tdiv v3 2) ^^^ BitVec.ofInt (IntKind.bits .u32) 2197175160).toNat : Int))).bind fun y41 =>
          if InR .i64 ((↑k17 : Int) + 1) then
            some (Sum.inl (y41, (k17 + 1)))
          else none
        else
          if InR .i64 ((↑k17 : Int) + 1) then
            some (Sum.inl ((Int.tdiv v3 2), (k17 + 1)))
          else none
      else none
    else
      some (Sum.inr v3)
def codec_Sum_L30_H (b_0 : (List UInt8)) (v3 : Int) (k9 : Nat) : (Int × Nat) → St := fun (s : (Int × Nat)) => S 32 [(3, .int .u32 s.1), (7, .lst (u8s b_0) b_0.length), (8, .int .i64 (↑b_0.length : Int)), (9, .int .i64 (↑k9 : Int)), (17, .int .i64 (↑s.2 : Int))] []
theorem codec_Sum_L30_0 (b_0 : (List UInt8)) (v3 : Int) (k9 : Nat) (v3 : Int) (k17 : Nat) (c38 : (↑k17 : Int) < (8 : Int)) (h39 : InR .u32 (Int.tdiv v3 2)) (c40 : (Int.tmod v3 2) = (1 : Int)) (y41 : Int) (h42 : some (IntKind.wrap .u32 ((BitVec.ofInt (IntKind.bits .u32) (Int.tdiv v3 2) ^^^ BitVec.ofInt (IntKind.bits .u32) 2197175160).toNat : Int)) = some y41) (h43 : InR .i64 ((↑k17 : Int) + 1)) : Does Try.prog G0 0 (bodyAt Try.prog 73 [1, 1, 0, 1, 0, 0, 1, 1, 0, 0, 1, 1, 1, 0, 0]) (codec_Sum_L30_H b_0 v3 k9 (v3, k17)) .normal (S 32 [(3, .int .u32 y41), (7, .lst (u8s b_0) b_0.length), (8, .int .i64 (↑b_0.length : Int)), (9, .int .i64 (↑k9 : Int)), (17, .int .i64 ((↑k17 : Int) + 1))] []) :=
  Does.of_viewM 0 400 ((.op none .a) :: (.br true) :: (.op none .c) :: (.op none .a) :: (cs 2 ((.op none .w) :: (cs 2 [.op none .a, .br true, .op none .c, .op none .a, .tr (.eqt (.t 26) (.int .u32 y41)), .op none .c, .op none .w, .op none .c])))) [] (ps := [((decide ((↑k17 : Int) < (8 : Int))) = true), (2 ≠ (0 : Int)), (2 ≠ (0 : Int)), (IntKind.min .u32 ≤ (Int.tdiv v3 2) ∧ (Int.tdiv v3 2) ≤ IntKind.max .u32), (((Int.tmod v3 2) == (1 : Int)) = true), ((.int .u32 (IntKind.wrap .u32 ((BitVec.ofInt (IntKind.bits .u32) (Int.tdiv v3 2) ^^^ BitVec.ofInt (IntKind.bits .u32) 2197175160).toNat : Int)) : AV) = .int .u32 y41), (IntKind.min .i64 ≤ ((↑k17 : Int) + 1) ∧ ((↑k17 : Int) + 1) ≤ IntKind.max .i64)]) (by kernel_rfl) (by kernel_rfl) ⟨(decide_eq_true c38), (by decide), (by decide), h39, (beq_t c40), (congrArg _ (Option.some.inj h42)), ok1 h43⟩
theorem codec_Sum_L30_1 (b_0 : (List UInt8)) (v3 : Int) (k9 : Nat) (v3 : Int) (k17 : Nat) (c38 : (↑k17 : Int) < (8 : Int)) (h39 : InR .u32 (Int.tdiv v3 2)) (c40 : ¬ ((Int.tmod v3 2) = (1 : Int))) (h44 : InR .i64 ((↑k17 : Int) + 1)) : Does Try.prog G0 0 (bodyAt Try.prog 73 [1, 1, 0, 1, 0, 0, 1, 1, 0, 0, 1, 1, 1, 0, 0]) (codec_Sum_L30_H b_0 v3 k9 (v3, k17)) .normal (S 32 [(3, .int .u32 (Int.tdiv v3 2)), (7, .lst (u8s b_0) b_0.length), (8, .int .i64 (↑b_0.length : Int)), (9, .int .i64 (↑k9 : Int)), (17, .int .i64 ((↑k17 : Int) + 1))] []) :=
  Does.of_viewM 0 400 ((.op none .a) :: (.br true) :: (.op none .c) :: (.op none .a) :: (cs 2 ((.op none .w) :: (cs 2 [.op none .a, .br false, .op none .w, .op none .c])))) [] (ps := [((decide ((↑k17 : Int) < (8 : Int))) = true), (2 ≠ (0 : Int)), (2 ≠ (0 : Int)), (IntKind.min .u32 ≤ (Int.tdiv v3 2) ∧ (Int.tdiv v3 2) ≤ IntKind.max .u32), (((Int.tmod v3 2) == (1 : Int)) = false), (IntKind.min .i64 ≤ ((↑k17 : Int) + 1) ∧ ((↑k17 : Int) + 1) ≤ IntKind.max .i64)]) (by kernel_rfl) (by kernel_rfl) ⟨(decide_eq_true c38), (by decide), (by decide), h39, (beq_f c40), ok1 h44⟩
theorem codec_Sum_L30_2 (b_0 : (List UInt8)) (v3 : Int) (k9 : Nat) (v3 : Int) (k17 : Nat) (c38 : ¬ ((↑k17 : Int) < (8 : Int))) : Does Try.prog G0 0 (bodyAt Try.prog 73 [1, 1, 0, 1, 0, 0, 1, 1, 0, 0, 1, 1, 1, 0, 0]) (codec_Sum_L30_H b_0 v3 k9 (v3, k17)) (.exit 2) (S 32 [(3, .int .u32 v3), (7, .lst (u8s b_0) b_0.length), (8, .int .i64 (↑b_0.length : Int)), (9, .int .i64 (↑k9 : Int))] []) :=
  Does.of_viewM 0 400 [.op none .a, .br false] [] (ps := [((decide ((↑k17 : Int) < (8 : Int))) = false)]) (by kernel_rfl) (by kernel_rfl) (ok1 (decide_eq_false c38))
def codec_Sum_L30_X (b_0 : (List UInt8)) (v3 : Int) (k9 : Nat) : Int → AEx := fun o => (.exit 2)
def codec_Sum_L30_E (b_0 : (List UInt8)) (v3 : Int) (k9 : Nat) : Int → St := fun o => S 32 [(3, .int .u32 o), (7, .lst (u8s b_0) b_0.length), (8, .int .i64 (↑b_0.length : Int)), (9, .int .i64 (↑k9 : Int))] []
theorem codec_Sum_L30_does (b_0 : (List UInt8)) (v3 : Int) (k9 : Nat) {s : (Int × Nat)} {r : Int} (h : lp (codec_Sum_L30_step b_0 v3 k9) s = some r) : Does Try.prog G0 0 (.loop (bodyAt Try.prog 73 [1, 1, 0, 1, 0, 0, 1, 1, 0, 0, 1, 1, 1, 0, 0])) (codec_Sum_L30_H b_0 v3 k9 s) (codec_Sum_L30_X b_0 v3 k9 r) (codec_Sum_L30_E b_0 v3 k9 r) := by
  refine Does.lp (H := codec_Sum_L30_H b_0 v3 k9) (X := codec_Sum_L30_X b_0 v3 k9) (E := codec_Sum_L30_E b_0 v3 k9) (fun s s2 h => ?_) (fun s r h => ?_) h
  · obtain ⟨v3, k17⟩ := s
    unfold codec_Sum_L30_step at h
    try dsimp only at h
    rcases ite_some h with ⟨c38, h⟩ | ⟨c38, h⟩
    · obtain ⟨h39, h⟩ := guard_some h
      rcases ite_some h with ⟨c40, h⟩ | ⟨c40, h⟩
      · obtain ⟨y41, h42, h⟩ := bind_some h
        obtain ⟨h43, h⟩ := guard_some h
        simp only [Option.some.injEq, Sum.inl.injEq] at h
        subst h
        exact codec_Sum_L30_0 b_0 v3 k9 v3 k17 c38 h39 c40 y41 h42 h43
      · obtain ⟨h44, h⟩ := guard_some h
        simp only [Option.some.injEq, Sum.inl.injEq] at h
        subst h
        exact codec_Sum_L30_1 b_0 v3 k9 v3 k17 c38 h39 c40 h44
    · simp at h
  · obtain ⟨v3, k17⟩ := s
    unfold codec_Sum_L30_step at h
    try dsimp only at h
    rcases ite_some h with ⟨c38, h⟩ | ⟨c38, h⟩
    · obtain ⟨h39, h⟩ := guard_some h
      rcases ite_some h with ⟨c40, h⟩ | ⟨c40, h⟩
      · obtain ⟨y41, h42, h⟩ := bind_some h
        obtain ⟨h43, h⟩ := guard_some h
        simp at h
      · obtain ⟨h44, h⟩ := guard_some h
        simp at h
    · simp only [Option.some.injEq, Sum.inr.injEq] at h
      subst h
      exact ⟨codec_Sum_L30_2 b_0 v3 k9 v3 k17 c38, by intro q; cases q⟩
noncomputable def codec_Sum_L1_step (b_0 : (List UInt8)) : (Int × Nat) → Option ((Int × Nat) ⊕ Int)
  | (v3, k9) =>
    if (↑k9 : Int) < (↑b_0.length : Int) then
      (b_0[k9]?).bind fun x25 =>
      if InR .u32 ((x25.toNat : Int)) then
        (some (IntKind.wrap .u32 ((BitVec.ofInt (IntKind.bits .u32) v3 ^^^ BitVec.ofInt (IntKind.bits .u32) (x25.toNat : Int)).toNat : Int))).bind fun y28 =>
        (lp (codec_Sum_L30_step b_0 v3 k9) (y28, (0 : Nat))).bind fun o30 =>
        if InR .i64 ((↑k9 : Int) + 1) then
          some (Sum.inl (o30, (k9 + 1)))
        else none
      else none
    else
      some (Sum.inr v3)
def codec_Sum_L1_H (b_0 : (List UInt8)) : (Int × Nat) → St := fun (s : (Int × Nat)) => S 32 [(3, .int .u32 s.1), (7, .lst (u8s b_0) b_0.length), (8, .int .i64 (↑b_0.length : Int)), (9, .int .i64 (↑s.2 : Int))] []
theorem codec_Sum_L1_0 (b_0 : (List UInt8)) (v3 : Int) (k9 : Nat) (c24 : (↑k9 : Int) < (↑b_0.length : Int)) (x25 : UInt8) (h26 : b_0[k9]? = some x25) (h27 : InR .u32 ((x25.toNat : Int))) (y28 : Int) (h29 : some (IntKind.wrap .u32 ((BitVec.ofInt (IntKind.bits .u32) v3 ^^^ BitVec.ofInt (IntKind.bits .u32) (x25.toNat : Int)).toNat : Int)) = some y28) (o30 : Int) (hl30 : lp (codec_Sum_L30_step b_0 v3 k9) (y28, (0 : Nat)) = some o30) (h45 : InR .i64 ((↑k9 : Int) + 1)) : Does Try.prog G0 0 (bodyAt Try.prog 73 [1, 1, 0, 1, 0, 0]) (codec_Sum_L1_H b_0 (v3, k9)) .normal (S 32 [(3, .int .u32 o30), (7, .lst (u8s b_0) b_0.length), (8, .int .i64 (↑b_0.length : Int)), (9, .int .i64 ((↑k9 : Int) + 1))] []) :=
  Does.of_viewM 0 400 ((.op none .a) :: (.br true) :: (.op none (.i k9)) :: (.op none (.v [.int .u8 (x25.toNat : Int)])) :: (cs 3 ((.op none .w) :: (.op none .a) :: (.tr (.eqt (.t 16) (.int .u32 y28))) :: (cs 2 [.fcut 0 (.exit 2) [(3, .int .u32 o30), (7, .lst (u8s b_0) b_0.length), (8, .int .i64 (↑b_0.length : Int)), (9, .int .i64 (↑k9 : Int))] [] [] [(3, .int .u32 y28), (7, .lst (u8s b_0) b_0.length), (8, .int .i64 (↑b_0.length : Int)), (9, .int .i64 (↑k9 : Int)), (17, .int .i64 (↑(0 : Nat) : Int))] [], .op none .w, .op none .c])))) [] (ps := [((decide ((↑k9 : Int) < (↑b_0.length : Int))) = true), ((↑k9 : Int) = ((k9 : Nat) : Int) ∧ k9 < b_0.length), ((u8s b_0) ≠ []), (sub (u8s b_0) k9 1 = [.int .u8 (x25.toNat : Int)]), (IntKind.min .u32 ≤ (x25.toNat : Int) ∧ (x25.toNat : Int) ≤ IntKind.max .u32), ((.int .u32 (IntKind.wrap .u32 ((BitVec.ofInt (IntKind.bits .u32) v3 ^^^ BitVec.ofInt (IntKind.bits .u32) (x25.toNat : Int)).toNat : Int)) : AV) = .int .u32 y28), ((.int .u32 y28 : AV) = .int .u32 y28), ((.lst (u8s b_0) b_0.length : AV) = .lst (u8s b_0) b_0.length), ((.int .i64 (↑b_0.length : Int) : AV) = .int .i64 (↑b_0.length : Int)), ((.int .i64 (↑k9 : Int) : AV) = .int .i64 (↑k9 : Int)), ((.int .i64 0 : AV) = .int .i64 (↑(0 : Nat) : Int)), (Does Try.prog G0 0 (.loop (bodyAt Try.prog 73 [1, 1, 0, 1, 0, 0, 1, 1, 0, 0, 1, 1, 1, 0, 0])) (S 32 [(3, .int .u32 y28), (7, .lst (u8s b_0) b_0.length), (8, .int .i64 (↑b_0.length : Int)), (9, .int .i64 (↑k9 : Int)), (17, .int .i64 (↑(0 : Nat) : Int))] []) (.exit 2) (S 32 [(3, .int .u32 o30), (7, .lst (u8s b_0) b_0.length), (8, .int .i64 (↑b_0.length : Int)), (9, .int .i64 (↑k9 : Int))] [])), (IntKind.min .i64 ≤ ((↑k9 : Int) + 1) ∧ ((↑k9 : Int) + 1) ≤ IntKind.max .i64)]) (by kernel_rfl) (by kernel_rfl) ⟨(decide_eq_true c24), ⟨rfl, get_lt h26⟩, (u8s_ne h26), (u8s_sub1 h26), h27, (congrArg _ (Option.some.inj h29)), rfl, rfl, rfl, rfl, rfl, (codec_Sum_L30_does b_0 v3 k9 hl30), ok1 h45⟩
theorem codec_Sum_L1_1 (b_0 : (List UInt8)) (v3 : Int) (k9 : Nat) (c24 : ¬ ((↑k9 : Int) < (↑b_0.length : Int))) : Does Try.prog G0 0 (bodyAt Try.prog 73 [1, 1, 0, 1, 0, 0]) (codec_Sum_L1_H b_0 (v3, k9)) (.exit 0) (S 32 [(3, .int .u32 v3)] []) :=
  Does.of_viewM 0 400 [.op none .a, .br false] [] (ps := [((decide ((↑k9 : Int) < (↑b_0.length : Int))) = false)]) (by kernel_rfl) (by kernel_rfl) (ok1 (decide_eq_false c24))
def codec_Sum_L1_X (b_0 : (List UInt8)) : Int → AEx := fun o => (.exit 0)
def codec_Sum_L1_E (b_0 : (List UInt8)) : Int → St := fun o => S 32 [(3, .int .u32 o)] []
theorem codec_Sum_L1_does (b_0 : (List UInt8)) {s : (Int × Nat)} {r : Int} (h : lp (codec_Sum_L1_step b_0) s = some r) : Does Try.prog G0 0 (.loop (bodyAt Try.prog 73 [1, 1, 0, 1, 0, 0])) (codec_Sum_L1_H b_0 s) (codec_Sum_L1_X b_0 r) (codec_Sum_L1_E b_0 r) := by
  refine Does.lp (H := codec_Sum_L1_H b_0) (X := codec_Sum_L1_X b_0) (E := codec_Sum_L1_E b_0) (fun s s2 h => ?_) (fun s r h => ?_) h
  · obtain ⟨v3, k9⟩ := s
    unfold codec_Sum_L1_step at h
    try dsimp only at h
    rcases ite_some h with ⟨c24, h⟩ | ⟨c24, h⟩
    · obtain ⟨x25, h26, h⟩ := bind_some h
      obtain ⟨h27, h⟩ := guard_some h
      obtain ⟨y28, h29, h⟩ := bind_some h
      obtain ⟨o30, hl30, h⟩ := bind_some h
      obtain ⟨h45, h⟩ := guard_some h
      simp only [Option.some.injEq, Sum.inl.injEq] at h
      subst h
      exact codec_Sum_L1_0 b_0 v3 k9 c24 x25 h26 h27 y28 h29 o30 hl30 h45
    · simp at h
  · obtain ⟨v3, k9⟩ := s
    unfold codec_Sum_L1_step at h
    try dsimp only at h
    rcases ite_some h with ⟨c24, h⟩ | ⟨c24, h⟩
    · obtain ⟨x25, h26, h⟩ := bind_some h
      obtain ⟨h27, h⟩ := guard_some h
      obtain ⟨y28, h29, h⟩ := bind_some h
      obtain ⟨o30, hl30, h⟩ := bind_some h
      obtain ⟨h45, h⟩ := guard_some h
      simp at h
    · simp only [Option.some.injEq, Sum.inr.injEq] at h
      subst h
      exact ⟨codec_Sum_L1_1 b_0 v3 k9 c24, by intro q; cases q⟩
noncomputable def codec_Sum (b_0 : (List UInt8)) : Option Int :=
  (lp (codec_Sum_L1_step b_0) ((4294967295 : Int), (0 : Nat))).bind fun o1 =>
  (some (IntKind.wrap .u32 ((BitVec.ofInt (IntKind.bits .u32) 4294967295 ^^^ BitVec.ofInt (IntKind.bits .u32) o1).toNat : Int))).bind fun y46 =>
  if InR .i64 (y46) then
    some y46
  else none
theorem codec_Sum_0 (b_0 : (List UInt8)) (o1 : Int) (hl1 : lp (codec_Sum_L1_step b_0) ((4294967295 : Int), (0 : Nat)) = some o1) (y46 : Int) (h47 : some (IntKind.wrap .u32 ((BitVec.ofInt (IntKind.bits .u32) 4294967295 ^^^ BitVec.ofInt (IntKind.bits .u32) o1).toNat : Int)) = some y46) (h48 : InR .i64 (y46)) : Ret Try.prog G0 73 [.lst (u8s b_0) b_0.length] (.int .i64 y46) [] :=
  Ret.of_view 400 (cs 5 [.fcut 0 (.exit 0) [(3, .int .u32 o1)] [] [] [(3, .int .u32 (4294967295 : Int)), (7, .lst (u8s b_0) b_0.length), (8, .int .i64 (↑b_0.length : Int)), (9, .int .i64 (↑(0 : Nat) : Int))] [], .op none .c, .op none .a, .tr (.eqt (.t 30) (.int .u32 y46)), .op none .w, .op none .c]) [] (ps := [((.int .u32 4294967295 : AV) = .int .u32 (4294967295 : Int)), ((.lst (u8s b_0) b_0.length : AV) = .lst (u8s b_0) b_0.length), ((.int .i64 (↑b_0.length : Int) : AV) = .int .i64 (↑b_0.length : Int)), ((.int .i64 0 : AV) = .int .i64 (↑(0 : Nat) : Int)), (Does Try.prog G0 0 (.loop (bodyAt Try.prog 73 [1, 1, 0, 1, 0, 0])) (S 32 [(3, .int .u32 (4294967295 : Int)), (7, .lst (u8s b_0) b_0.length), (8, .int .i64 (↑b_0.length : Int)), (9, .int .i64 (↑(0 : Nat) : Int))] []) (.exit 0) (S 32 [(3, .int .u32 o1)] [])), ((.int .u32 (IntKind.wrap .u32 ((BitVec.ofInt (IntKind.bits .u32) 4294967295 ^^^ BitVec.ofInt (IntKind.bits .u32) o1).toNat : Int)) : AV) = .int .u32 y46), (IntKind.min .i64 ≤ y46 ∧ y46 ≤ IntKind.max .i64)]) (by kernel_rfl) (by kernel_rfl) ⟨rfl, rfl, rfl, rfl, (codec_Sum_L1_does b_0 hl1), (congrArg _ (Option.some.inj h47)), ok1 h48⟩
theorem codec_Sum_ret (b_0 : (List UInt8)) (r : Int) (h : codec_Sum b_0 = some r) : Ret Try.prog G0 73 [.lst (u8s b_0) b_0.length] (.int .i64 r) [] := by
  unfold codec_Sum at h
  obtain ⟨o1, hl1, h⟩ := bind_some h
  obtain ⟨y46, h47, h⟩ := bind_some h
  obtain ⟨h48, h⟩ := guard_some h
  simp only [Option.some.injEq] at h
  subst h
  exact codec_Sum_0 b_0 o1 hl1 y46 h47 h48
noncomputable def codec_PutInt_L8_step  : (Int × (List UInt8)) → Option ((Int × (List UInt8)) ⊕ (Int × (List UInt8)))
  | (v5, b1) =>
    if v5 ≥ (128 : Int) then
      if InR .u8 (Int.tmod v5 128) then
        if InR .u8 ((Int.tmod v5 128) + 128) then
          if b1.length + 1 ≤ 4294967296 then
            if InR .u64 (Int.tdiv v5 128) then
              some (Sum.inl ((Int.tdiv v5 128), (b1 ++ [(UInt8.ofNat (Int.toNat ((Int.tmod v5 128) + 128)))])))
            else none
          else none
        else none
      else none
    else
      some (Sum.inr (v5, b1))
def codec_PutInt_L8_H  : (Int × (List UInt8)) → St := fun (s : (Int × (List UInt8))) => S 37 [(5, .int .u64 s.1), (6, .vec 0 s.2.length 1)] [{ c := (u8s s.2), e := 5, ext := true, fz := 0, pl := true, o := true }]
theorem codec_PutInt_L8_0  (v5 : Int) (b1 : (List UInt8)) (c14 : v5 ≥ (128 : Int)) (h15 : InR .u8 (Int.tmod v5 128)) (h16 : InR .u8 ((Int.tmod v5 128) + 128)) (h17 : b1.length + 1 ≤ 4294967296) (h18 : InR .u64 (Int.tdiv v5 128)) : Does Try.prog G0 0 (bodyAt Try.prog 74 [1, 1, 1, 1, 0, 0, 0]) (codec_PutInt_L8_H  (v5, b1)) .normal (S 37 [(5, .int .u64 (Int.tdiv v5 128)), (6, .vec 0 ((b1 ++ [(UInt8.ofNat (Int.toNat ((Int.tmod v5 128) + 128)))]).length) 1)] [{ c := (u8s (b1 ++ [(UInt8.ofNat (Int.toNat ((Int.tmod v5 128) + 128)))])), e := 5, ext := true, fz := 0, pl := true, o := true }]) :=
  Does.of_viewM 0 400 ((.op none .c) :: (.op none .a) :: (.br true) :: (cs 2 ((.op none .a) :: (.op none .w) :: (.op none .w) :: (.op none .c) :: (.op none (.ap 4)) :: (.tr (.eqc 2 (u8s (b1 ++ [(UInt8.ofNat (Int.toNat ((Int.tmod v5 128) + 128)))])))) :: (.tr (.eqt (.t 29) (.vec 2 ((b1 ++ [(UInt8.ofNat (Int.toNat ((Int.tmod v5 128) + 128)))]).length) 1))) :: (cs 2 [.op none .w, .op none .c])))) [2] (ps := [((decide (v5 ≥ (128 : Int))) = true), (128 ≠ (0 : Int)), (IntKind.min .u8 ≤ (Int.tmod v5 128) ∧ (Int.tmod v5 128) ≤ IntKind.max .u8), (IntKind.min .u8 ≤ ((Int.tmod v5 128) + 128) ∧ ((Int.tmod v5 128) + 128) ≤ IntKind.max .u8), (0 + 1 ≤ List.length ([.int .u8 ((Int.tmod v5 128) + 128)] : List AV)), (List.length ((u8s b1) : List AV) = b1.length), (List.all ([.int .u8 ((Int.tmod v5 128) + 128)] : List AV) AV.one = true), (b1.length + 1 ≤ 4294967296), ((u8s b1) ++ [.int .u8 ((Int.tmod v5 128) + 128)] = (u8s (b1 ++ [(UInt8.ofNat (Int.toNat ((Int.tmod v5 128) + 128)))]))), ((.vec 2 (b1.length + 1) 1 : AV) = .vec 2 ((b1 ++ [(UInt8.ofNat (Int.toNat ((Int.tmod v5 128) + 128)))]).length) 1), (128 ≠ (0 : Int)), (IntKind.min .u64 ≤ (Int.tdiv v5 128) ∧ (Int.tdiv v5 128) ≤ IntKind.max .u64)]) (by kernel_rfl) (by kernel_rfl) ⟨(decide_eq_true c14), (by decide), h15, h16, (Nat.le_of_ble_eq_true rfl), u8s_length, rfl, h17, (u8s_snoc (congrArg (fun q => [q]) (u8_of h16))), (by simp), (by decide), ok1 h18⟩
theorem codec_PutInt_L8_1  (v5 : Int) (b1 : (List UInt8)) (c14 : ¬ (v5 ≥ (128 : Int))) : Does Try.prog G0 0 (bodyAt Try.prog 74 [1, 1, 1, 1, 0, 0, 0]) (codec_PutInt_L8_H  (v5, b1)) (.exit 0) (S 37 [(5, .int .u64 v5), (6, .vec 0 b1.length 1)] [{ c := (u8s b1), e := 5, ext := true, fz := 0, pl := true, o := true }]) :=
  Does.of_viewM 0 400 [.op none .c, .op none .a, .br false] [0] (ps := [((decide (v5 ≥ (128 : Int))) = false)]) (by kernel_rfl) (by kernel_rfl) (ok1 (decide_eq_false c14))
def codec_PutInt_L8_X  : (Int × (List UInt8)) → AEx := fun o => (.exit 0)
def codec_PutInt_L8_E  : (Int × (List UInt8)) → St := fun o => S 37 [(5, .int .u64 o.1), (6, .vec 0 o.2.length 1)] [{ c := (u8s o.2), e := 5, ext := true, fz := 0, pl := true, o := true }]
theorem codec_PutInt_L8_does  {s : (Int × (List UInt8))} {r : (Int × (List UInt8))} (h : lp (codec_PutInt_L8_step ) s = some r) : Does Try.prog G0 0 (.loop (bodyAt Try.prog 74 [1, 1, 1, 1, 0, 0, 0])) (codec_PutInt_L8_H  s) (codec_PutInt_L8_X  r) (codec_PutInt_L8_E  r) := by
  refine Does.lp (H := codec_PutInt_L8_H ) (X := codec_PutInt_L8_X ) (E := codec_PutInt_L8_E ) (fun s s2 h => ?_) (fun s r h => ?_) h
  · obtain ⟨v5, b1⟩ := s
    unfold codec_PutInt_L8_step at h
    try dsimp only at h
    rcases ite_some h with ⟨c14, h⟩ | ⟨c14, h⟩
    · obtain ⟨h15, h⟩ := guard_some h
      obtain ⟨h16, h⟩ := guard_some h
      obtain ⟨h17, h⟩ := guard_some h
      obtain ⟨h18, h⟩ := guard_some h
      simp only [Option.some.injEq, Sum.inl.injEq] at h
      subst h
      exact codec_PutInt_L8_0 v5 b1 c14 h15 h16 h17 h18
    · simp at h
  · obtain ⟨v5, b1⟩ := s
    unfold codec_PutInt_L8_step at h
    try dsimp only at h
    rcases ite_some h with ⟨c14, h⟩ | ⟨c14, h⟩
    · obtain ⟨h15, h⟩ := guard_some h
      obtain ⟨h16, h⟩ := guard_some h
      obtain ⟨h17, h⟩ := guard_some h
      obtain ⟨h18, h⟩ := guard_some h
      simp at h
    · simp only [Option.some.injEq, Sum.inr.injEq] at h
      subst h
      exact ⟨codec_PutInt_L8_1 v5 b1 c14, by intro q; cases q⟩
noncomputable def codec_PutInt_L22_step  : (Int × (List UInt8)) → Option ((Int × (List UInt8)) ⊕ (Int × (List UInt8)))
  | (v5, b1) =>
    if v5 ≥ (128 : Int) then
      if InR .u8 (Int.tmod v5 128) then
        if InR .u8 ((Int.tmod v5 128) + 128) then
          if b1.length + 1 ≤ 4294967296 then
            if InR .u64 (Int.tdiv v5 128) then
              some (Sum.inl ((Int.tdiv v5 128), (b1 ++ [(UInt8.ofNat (Int.toNat ((Int.tmod v5 128) + 128)))])))
            else none
          else none
        else none
      else none
    else
      some (Sum.inr (v5, b1))
def codec_PutInt_L22_H  : (Int × (List UInt8)) → St := fun (s : (Int × (List UInt8))) => S 37 [(5, .int .u64 s.1), (6, .vec 0 s.2.length 1)] [{ c := (u8s s.2), e := 5, ext := true, fz := 0, pl := true, o := true }]
theorem codec_PutInt_L22_0  (v5 : Int) (b1 : (List UInt8)) (c28 : v5 ≥ (128 : Int)) (h29 : InR .u8 (Int.tmod v5 128)) (h30 : InR .u8 ((Int.tmod v5 128) + 128)) (h31 : b1.length + 1 ≤ 4294967296) (h32 : InR .u64 (Int.tdiv v5 128)) : Does Try.prog G0 0 (bodyAt Try.prog 74 [1, 1, 1, 1, 0, 0, 0]) (codec_PutInt_L22_H  (v5, b1)) .normal (S 37 [(5, .int .u64 (Int.tdiv v5 128)), (6, .vec 0 ((b1 ++ [(UInt8.ofNat (Int.toNat ((Int.tmod v5 128) + 128)))]).length) 1)] [{ c := (u8s (b1 ++ [(UInt8.ofNat (Int.toNat ((Int.tmod v5 128) + 128)))])), e := 5, ext := true, fz := 0, pl := true, o := true }]) :=
  Does.of_viewM 0 400 ((.op none .c) :: (.op none .a) :: (.br true) :: (cs 2 ((.op none .a) :: (.op none .w) :: (.op none .w) :: (.op none .c) :: (.op none (.ap 4)) :: (.tr (.eqc 2 (u8s (b1 ++ [(UInt8.ofNat (Int.toNat ((Int.tmod v5 128) + 128)))])))) :: (.tr (.eqt (.t 29) (.vec 2 ((b1 ++ [(UInt8.ofNat (Int.toNat ((Int.tmod v5 128) + 128)))]).length) 1))) :: (cs 2 [.op none .w, .op none .c])))) [2] (ps := [((decide (v5 ≥ (128 : Int))) = true), (128 ≠ (0 : Int)), (IntKind.min .u8 ≤ (Int.tmod v5 128) ∧ (Int.tmod v5 128) ≤ IntKind.max .u8), (IntKind.min .u8 ≤ ((Int.tmod v5 128) + 128) ∧ ((Int.tmod v5 128) + 128) ≤ IntKind.max .u8), (0 + 1 ≤ List.length ([.int .u8 ((Int.tmod v5 128) + 128)] : List AV)), (List.length ((u8s b1) : List AV) = b1.length), (List.all ([.int .u8 ((Int.tmod v5 128) + 128)] : List AV) AV.one = true), (b1.length + 1 ≤ 4294967296), ((u8s b1) ++ [.int .u8 ((Int.tmod v5 128) + 128)] = (u8s (b1 ++ [(UInt8.ofNat (Int.toNat ((Int.tmod v5 128) + 128)))]))), ((.vec 2 (b1.length + 1) 1 : AV) = .vec 2 ((b1 ++ [(UInt8.ofNat (Int.toNat ((Int.tmod v5 128) + 128)))]).length) 1), (128 ≠ (0 : Int)), (IntKind.min .u64 ≤ (Int.tdiv v5 128) ∧ (Int.tdiv v5 128) ≤ IntKind.max .u64)]) (by kernel_rfl) (by kernel_rfl) ⟨(decide_eq_true c28), (by decide), h29, h30, (Nat.le_of_ble_eq_true rfl), u8s_length, rfl, h31, (u8s_snoc (congrArg (fun q => [q]) (u8_of h30))), (by simp), (by decide), ok1 h32⟩
theorem codec_PutInt_L22_1  (v5 : Int) (b1 : (List UInt8)) (c28 : ¬ (v5 ≥ (128 : Int))) : Does Try.prog G0 0 (bodyAt Try.prog 74 [1, 1, 1, 1, 0, 0, 0]) (codec_PutInt_L22_H  (v5, b1)) (.exit 0) (S 37 [(5, .int .u64 v5), (6, .vec 0 b1.length 1)] [{ c := (u8s b1), e := 5, ext := true, fz := 0, pl := true, o := true }]) :=
  Does.of_viewM 0 400 [.op none .c, .op none .a, .br false] [0] (ps := [((decide (v5 ≥ (128 : Int))) = false)]) (by kernel_rfl) (by kernel_rfl) (ok1 (decide_eq_false c28))
def codec_PutInt_L22_X  : (Int × (List UInt8)) → AEx := fun o => (.exit 0)
def codec_PutInt_L22_E  : (Int × (List UInt8)) → St := fun o => S 37 [(5, .int .u64 o.1), (6, .vec 0 o.2.length 1)] [{ c := (u8s o.2), e := 5, ext := true, fz := 0, pl := true, o := true }]
theorem codec_PutInt_L22_does  {s : (Int × (List UInt8))} {r : (Int × (List UInt8))} (h : lp (codec_PutInt_L22_step ) s = some r) : Does Try.prog G0 0 (.loop (bodyAt Try.prog 74 [1, 1, 1, 1, 0, 0, 0])) (codec_PutInt_L22_H  s) (codec_PutInt_L22_X  r) (codec_PutInt_L22_E  r) := by
  refine Does.lp (H := codec_PutInt_L22_H ) (X := codec_PutInt_L22_X ) (E := codec_PutInt_L22_E ) (fun s s2 h => ?_) (fun s r h => ?_) h
  · obtain ⟨v5, b1⟩ := s
    unfold codec_PutInt_L22_step at h
    try dsimp only at h
    rcases ite_some h with ⟨c28, h⟩ | ⟨c28, h⟩
    · obtain ⟨h29, h⟩ := guard_some h
      obtain ⟨h30, h⟩ := guard_some h
      obtain ⟨h31, h⟩ := guard_some h
      obtain ⟨h32, h⟩ := guard_some h
      simp only [Option.some.injEq, Sum.inl.injEq] at h
      subst h
      exact codec_PutInt_L22_0 v5 b1 c28 h29 h30 h31 h32
    · simp at h
  · obtain ⟨v5, b1⟩ := s
    unfold codec_PutInt_L22_step at h
    try dsimp only at h
    rcases ite_some h with ⟨c28, h⟩ | ⟨c28, h⟩
    · obtain ⟨h29, h⟩ := guard_some h
      obtain ⟨h30, h⟩ := guard_some h
      obtain ⟨h31, h⟩ := guard_some h
      obtain ⟨h32, h⟩ := guard_some h
      simp at h
    · simp only [Option.some.injEq, Sum.inr.injEq] at h
      subst h
      exact ⟨codec_PutInt_L22_1 v5 b1 c28, by intro q; cases q⟩
noncomputable def codec_PutInt (b_0 : (List UInt8)) (n_1 : Int) : Option (List UInt8) :=
  if n_1 < (0 : Int) then
    if InR .i64 (n_1 + 1) then
      if InR .i64 (0 - (n_1 + 1)) then
        if InR .u64 (0 - (n_1 + 1)) then
          if InR .u64 ((0 - (n_1 + 1)) * 2) then
            if InR .u64 (((0 - (n_1 + 1)) * 2) + 1) then
              if 0 + b_0.length ≤ 4294967296 then
                (lp (codec_PutInt_L8_step) ((((0 - (n_1 + 1)) * 2) + 1), b_0)).bind fun o8 =>
                if InR .u8 (o8.1) then
                  if o8.2.length + 1 ≤ 4294967296 then
                    some (o8.2 ++ [(UInt8.ofNat (Int.toNat o8.1))])
                  else none
                else none
              else none
            else none
          else none
        else none
      else none
    else none
  else
    if 0 + b_0.length ≤ 4294967296 then
      (lp (codec_PutInt_L22_step) ((IntKind.wrap .u64 ((IntKind.wrap .u64 (n_1)) * 2)), b_0)).bind fun o22 =>
      if InR .u8 (o22.1) then
        if o22.2.length + 1 ≤ 4294967296 then
          some (o22.2 ++ [(UInt8.ofNat (Int.toNat o22.1))])
        else none
      else none
    else none
theorem codec_PutInt_0 (b_0 : (List UInt8)) (n_1 : Int) (c1 : n_1 < (0 : Int)) (h2 : InR .i64 (n_1 + 1)) (h3 : InR .i64 (0 - (n_1 + 1))) (h4 : InR .u64 (0 - (n_1 + 1))) (h5 : InR .u64 ((0 - (n_1 + 1)) * 2)) (h6 : InR .u64 (((0 - (n_1 + 1)) * 2) + 1)) (h7 : 0 + b_0.length ≤ 4294967296) (o8 : (Int × (List UInt8))) (hl8 : lp (codec_PutInt_L8_step) ((((0 - (n_1 + 1)) * 2) + 1), b_0) = some o8) (h19 : InR .u8 (o8.1)) (h20 : o8.2.length + 1 ≤ 4294967296) : Ret Try.prog G0 74 [.lst (u8s b_0) b_0.length, .int .i64 n_1] (.vec 0 ((o8.2 ++ [(UInt8.ofNat (Int.toNat o8.1))]).length) 1) [{ c := (u8s (o8.2 ++ [(UInt8.ofNat (Int.toNat o8.1))])), e := 5, ext := true, fz := 0, pl := true, o := true }] :=
  Ret.of_view 400 (cs 2 ((.op none .a) :: (.op none .a) :: (cs 2 ((.op none .a) :: (.br true) :: (.op none .c) :: (.op none .w) :: (.op none .w) :: (.op none .w) :: (.op none .w) :: (.op none .w) :: (cs 3 ((.tr (.wid (.t 18))) :: (.op none (.ap 4)) :: (.tr (.eqc 1 (u8s b_0))) :: (.tr (.eqt (.t 20) (.vec 1 b_0.length 1))) :: (.op none .c) :: (.fcut 0 (.exit 0) [(5, .int .u64 o8.1), (6, .vec 0 o8.2.length 1)] [{ c := (u8s o8.2), e := 5, ext := true, fz := 0, pl := true, o := true }] [1] [(5, .int .u64 (((0 - (n_1 + 1)) * 2) + 1)), (6, .vec 0 b_0.length 1)] [{ c := (u8s b_0), e := 5, ext := true, fz := 0, pl := true, o := true }]) :: (cs 2 [.op none .w, .op none .c, .op none (.ap 4), .tr (.eqc 4 (u8s (o8.2 ++ [(UInt8.ofNat (Int.toNat o8.1))]))), .tr (.eqt (.t 36) (.vec 4 ((o8.2 ++ [(UInt8.ofNat (Int.toNat o8.1))]).length) 1)), .op none .c]))))))) [4] (ps := [((decide (n_1 < (0 : Int))) = true), (IntKind.min .i64 ≤ (n_1 + 1) ∧ (n_1 + 1) ≤ IntKind.max .i64), (IntKind.min .i64 ≤ (0 - (n_1 + 1)) ∧ (0 - (n_1 + 1)) ≤ IntKind.max .i64), (IntKind.min .u64 ≤ (0 - (n_1 + 1)) ∧ (0 - (n_1 + 1)) ≤ IntKind.max .u64), (IntKind.min .u64 ≤ ((0 - (n_1 + 1)) * 2) ∧ ((0 - (n_1 + 1)) * 2) ≤ IntKind.max .u64), (IntKind.min .u64 ≤ (((0 - (n_1 + 1)) * 2) + 1) ∧ (((0 - (n_1 + 1)) * 2) + 1) ≤ IntKind.max .u64), (0 ≤ 0), (List.length ((u8s b_0) : List AV) = b_0.length), (List.length ([] : List AV) = 0), (List.all ((u8s b_0) : List AV) AV.one = true), (0 + b_0.length ≤ 4294967296), ([] ++ (u8s b_0) = (u8s b_0)), ((.vec 1 (0 + b_0.length) 1 : AV) = .vec 1 b_0.length 1), ((.int .u64 (((0 - (n_1 + 1)) * 2) + 1) : AV) = .int .u64 (((0 - (n_1 + 1)) * 2) + 1)), ((.vec 1 b_0.length 1 : AV) = .vec 1 b_0.length 1), (({ c := (u8s b_0), e := 5, ext := true, fz := 0, pl := true, o := true } : Blk) = renB [1] { c := (u8s b_0), e := 5, ext := true, fz := 0, pl := true, o := true }), (Does Try.prog G0 0 (.loop (bodyAt Try.prog 74 [1, 1, 1, 1, 0, 0, 0])) (S 37 [(5, .int .u64 (((0 - (n_1 + 1)) * 2) + 1)), (6, .vec 0 b_0.length 1)] [{ c := (u8s b_0), e := 5, ext := true, fz := 0, pl := true, o := true }]) (.exit 0) (S 37 [(5, .int .u64 o8.1), (6, .vec 0 o8.2.length 1)] [{ c := (u8s o8.2), e := 5, ext := true, fz := 0, pl := true, o := true }])), (IntKind.min .u8 ≤ o8.1 ∧ o8.1 ≤ IntKind.max .u8), (0 + 1 ≤ List.length ([.int .u8 o8.1] : List AV)), (List.length ((u8s o8.2) : List AV) = o8.2.length), (List.all ([.int .u8 o8.1] : List AV) AV.one = true), (o8.2.length + 1 ≤ 4294967296), ((u8s o8.2) ++ [.int .u8 o8.1] = (u8s (o8.2 ++ [(UInt8.ofNat (Int.toNat o8.1))]))), ((.vec 4 (o8.2.length + 1) 1 : AV) = .vec 4 ((o8.2 ++ [(UInt8.ofNat (Int.toNat o8.1))]).length) 1)]) (by kernel_rfl) (by kernel_rfl) ⟨(decide_eq_true c1), h2, h3, h4, h5, h6, (Nat.le_refl _), u8s_length, rfl, (u8s_one _), h7, rfl, (by simp), rfl, rfl, rfl, (codec_PutInt_L8_does hl8), h19, (Nat.le_of_ble_eq_true rfl), u8s_length, rfl, h20, (u8s_snoc (congrArg (fun q => [q]) (u8_of h19))), ok1 (by simp)⟩
theorem codec_PutInt_1 (b_0 : (List UInt8)) (n_1 : Int) (c1 : ¬ (n_1 < (0 : Int))) (h21 : 0 + b_0.length ≤ 4294967296) (o22 : (Int × (List UInt8))) (hl22 : lp (codec_PutInt_L22_step) ((IntKind.wrap .u64 ((IntKind.wrap .u64 (n_1)) * 2)), b_0) = some o22) (h33 : InR .u8 (o22.1)) (h34 : o22.2.length + 1 ≤ 4294967296) : Ret Try.prog G0 74 [.lst (u8s b_0) b_0.length, .int .i64 n_1] (.vec 0 ((o22.2 ++ [(UInt8.ofNat (Int.toNat o22.1))]).length) 1) [{ c := (u8s (o22.2 ++ [(UInt8.ofNat (Int.toNat o22.1))])), e := 5, ext := true, fz := 0, pl := true, o := true }] :=
  Ret.of_view 400 (cs 2 ((.op none .a) :: (.op none .a) :: (cs 2 ((.op none .a) :: (.br false) :: (cs 2 ((.tr (.wid (.t 18))) :: (.op none (.ap 4)) :: (.tr (.eqc 1 (u8s b_0))) :: (.tr (.eqt (.t 20) (.vec 1 b_0.length 1))) :: (.op none .c) :: (.fcut 0 (.exit 0) [(5, .int .u64 o22.1), (6, .vec 0 o22.2.length 1)] [{ c := (u8s o22.2), e := 5, ext := true, fz := 0, pl := true, o := true }] [1] [(5, .int .u64 (IntKind.wrap .u64 ((IntKind.wrap .u64 (n_1)) * 2))), (6, .vec 0 b_0.length 1)] [{ c := (u8s b_0), e := 5, ext := true, fz := 0, pl := true, o := true }]) :: (cs 2 [.op none .w, .op none .c, .op none (.ap 4), .tr (.eqc 4 (u8s (o22.2 ++ [(UInt8.ofNat (Int.toNat o22.1))]))), .tr (.eqt (.t 36) (.vec 4 ((o22.2 ++ [(UInt8.ofNat (Int.toNat o22.1))]).length) 1)), .op none .c]))))))) [4] (ps := [((decide (n_1 < (0 : Int))) = false), (0 ≤ 0), (List.length ((u8s b_0) : List AV) = b_0.length), (List.length ([] : List AV) = 0), (List.all ((u8s b_0) : List AV) AV.one = true), (0 + b_0.length ≤ 4294967296), ([] ++ (u8s b_0) = (u8s b_0)), ((.vec 1 (0 + b_0.length) 1 : AV) = .vec 1 b_0.length 1), ((.int .u64 (IntKind.wrap .u64 ((IntKind.wrap .u64 (n_1)) * 2)) : AV) = .int .u64 (IntKind.wrap .u64 ((IntKind.wrap .u64 (n_1)) * 2))), ((.vec 1 b_0.length 1 : AV) = .vec 1 b_0.length 1), (({ c := (u8s b_0), e := 5, ext := true, fz := 0, pl := true, o := true } : Blk) = renB [1] { c := (u8s b_0), e := 5, ext := true, fz := 0, pl := true, o := true }), (Does Try.prog G0 0 (.loop (bodyAt Try.prog 74 [1, 1, 1, 1, 0, 0, 0])) (S 37 [(5, .int .u64 (IntKind.wrap .u64 ((IntKind.wrap .u64 (n_1)) * 2))), (6, .vec 0 b_0.length 1)] [{ c := (u8s b_0), e := 5, ext := true, fz := 0, pl := true, o := true }]) (.exit 0) (S 37 [(5, .int .u64 o22.1), (6, .vec 0 o22.2.length 1)] [{ c := (u8s o22.2), e := 5, ext := true, fz := 0, pl := true, o := true }])), (IntKind.min .u8 ≤ o22.1 ∧ o22.1 ≤ IntKind.max .u8), (0 + 1 ≤ List.length ([.int .u8 o22.1] : List AV)), (List.length ((u8s o22.2) : List AV) = o22.2.length), (List.all ([.int .u8 o22.1] : List AV) AV.one = true), (o22.2.length + 1 ≤ 4294967296), ((u8s o22.2) ++ [.int .u8 o22.1] = (u8s (o22.2 ++ [(UInt8.ofNat (Int.toNat o22.1))]))), ((.vec 4 (o22.2.length + 1) 1 : AV) = .vec 4 ((o22.2 ++ [(UInt8.ofNat (Int.toNat o22.1))]).length) 1)]) (by kernel_rfl) (by kernel_rfl) ⟨(decide_eq_false c1), (Nat.le_refl _), u8s_length, rfl, (u8s_one _), h21, rfl, (by simp), rfl, rfl, rfl, (codec_PutInt_L22_does hl22), h33, (Nat.le_of_ble_eq_true rfl), u8s_length, rfl, h34, (u8s_snoc (congrArg (fun q => [q]) (u8_of h33))), ok1 (by simp)⟩
theorem codec_PutInt_ret (b_0 : (List UInt8)) (n_1 : Int) (r : (List UInt8)) (h : codec_PutInt b_0 n_1 = some r) : Ret Try.prog G0 74 [.lst (u8s b_0) b_0.length, .int .i64 n_1] (.vec 0 r.length 1) [{ c := (u8s r), e := 5, ext := true, fz := 0, pl := true, o := true }] := by
  unfold codec_PutInt at h
  rcases ite_some h with ⟨c1, h⟩ | ⟨c1, h⟩
  · obtain ⟨h2, h⟩ := guard_some h
    obtain ⟨h3, h⟩ := guard_some h
    obtain ⟨h4, h⟩ := guard_some h
    obtain ⟨h5, h⟩ := guard_some h
    obtain ⟨h6, h⟩ := guard_some h
    obtain ⟨h7, h⟩ := guard_some h
    obtain ⟨o8, hl8, h⟩ := bind_some h
    obtain ⟨h19, h⟩ := guard_some h
    obtain ⟨h20, h⟩ := guard_some h
    simp only [Option.some.injEq] at h
    subst h
    exact codec_PutInt_0 b_0 n_1 c1 h2 h3 h4 h5 h6 h7 o8 hl8 h19 h20
  · obtain ⟨h21, h⟩ := guard_some h
    obtain ⟨o22, hl22, h⟩ := bind_some h
    obtain ⟨h33, h⟩ := guard_some h
    obtain ⟨h34, h⟩ := guard_some h
    simp only [Option.some.injEq] at h
    subst h
    exact codec_PutInt_1 b_0 n_1 c1 h21 o22 hl22 h33 h34
noncomputable def codec_PutText (b_0 : (List UInt8)) (s_1 : (List UInt8)) : Option (List UInt8) :=
  (codec_PutInt b_0 (↑s_1.length : Int)).bind fun r1 =>
  if r1.length + s_1.length ≤ 4294967296 then
    some (r1 ++ s_1)
  else none
theorem codec_PutText_0 (b_0 : (List UInt8)) (s_1 : (List UInt8)) (r1 : (List UInt8)) (h2 : codec_PutInt b_0 (↑s_1.length : Int) = some r1) (h3 : r1.length + s_1.length ≤ 4294967296) : Ret Try.prog G0 72 [.lst (u8s b_0) b_0.length, .str s_1] (.vec 0 ((r1 ++ s_1).length) 1) [{ c := (u8s (r1 ++ s_1)), e := 5, ext := true, fz := 0, pl := true, o := true }] :=
  Ret.of_view 400 (cs 4 [.ret none [.lst (u8s b_0) b_0.length, .int .i64 (↑s_1.length : Int)] (.vec 0 r1.length 1) [{ c := (u8s r1), e := 5, ext := true, fz := 0, pl := true, o := true }], .op none .c, .op none (.ap 4), .tr (.eqc 1 (u8s (r1 ++ s_1))), .tr (.eqt (.t 10) (.vec 1 ((r1 ++ s_1).length) 1)), .op none .c]) [1] (ps := [((.lst (u8s b_0) b_0.length : AV) = .lst (u8s b_0) b_0.length), ((.int .i64 (↑s_1.length : Int) : AV) = .int .i64 (↑s_1.length : Int)), (Ret Try.prog G0 74 [.lst (u8s b_0) b_0.length, .int .i64 (↑s_1.length : Int)] (.vec 0 r1.length 1) [{ c := (u8s r1), e := 5, ext := true, fz := 0, pl := true, o := true }]), (List.length ((u8s r1) : List AV) = r1.length), (List.all ((u8s s_1) : List AV) AV.one = true), (r1.length + s_1.length ≤ 4294967296), ((u8s r1) ++ (u8s s_1) = (u8s (r1 ++ s_1))), ((.vec 1 (r1.length + s_1.length) 1 : AV) = .vec 1 ((r1 ++ s_1).length) 1)]) (by kernel_rfl) (by kernel_rfl) ⟨rfl, rfl, (codec_PutInt_ret b_0 (↑s_1.length : Int) r1 h2), u8s_length, (u8s_one _), h3, u8s_app.symm, ok1 (by simp)⟩
theorem codec_PutText_ret (b_0 : (List UInt8)) (s_1 : (List UInt8)) (r : (List UInt8)) (h : codec_PutText b_0 s_1 = some r) : Ret Try.prog G0 72 [.lst (u8s b_0) b_0.length, .str s_1] (.vec 0 r.length 1) [{ c := (u8s r), e := 5, ext := true, fz := 0, pl := true, o := true }] := by
  unfold codec_PutText at h
  obtain ⟨r1, h2, h⟩ := bind_some h
  obtain ⟨h3, h⟩ := guard_some h
  simp only [Option.some.injEq] at h
  subst h
  exact codec_PutText_0 b_0 s_1 r1 h2 h3
noncomputable def codec_PutFrame (b_0 : (List UInt8)) (kind_1 : Int) (p_2 : (List UInt8)) : Option (List UInt8) :=
  if InR .u8 (IntKind.wrap .u8 (kind_1)) then
    (codec_PutText ([(UInt8.ofNat (Int.toNat (IntKind.wrap .u8 (kind_1))))] : List UInt8) p_2).bind fun r2 =>
    (codec_Sum r2).bind fun r4 =>
    (some (IntKind.wrap .u8 (Int.fdiv r4 (2 ^ (min (Int.toNat 24) (IntKind.bits .i64)))))).bind fun y6 =>
    (some (IntKind.wrap .u8 (Int.fdiv r4 (2 ^ (min (Int.toNat 16) (IntKind.bits .i64)))))).bind fun y8 =>
    (some (IntKind.wrap .u8 (Int.fdiv r4 (2 ^ (min (Int.toNat 8) (IntKind.bits .i64)))))).bind fun y10 =>
    if r2.length + 4 ≤ 4294967296 then
      if InR .u8 (y6) then
        if InR .u8 (y8) then
          if InR .u8 (y10) then
            if InR .u8 (IntKind.wrap .u8 (r4)) then
              if 0 + b_0.length ≤ 4294967296 then
                if b_0.length + ((r2 ++ [(UInt8.ofNat (Int.toNat y6)), (UInt8.ofNat (Int.toNat y8)), (UInt8.ofNat (Int.toNat y10)), (UInt8.ofNat (Int.toNat (IntKind.wrap .u8 (r4))))]).length) ≤ 4294967296 then
                  some (b_0 ++ (r2 ++ [(UInt8.ofNat (Int.toNat y6)), (UInt8.ofNat (Int.toNat y8)), (UInt8.ofNat (Int.toNat y10)), (UInt8.ofNat (Int.toNat (IntKind.wrap .u8 (r4))))]))
                else none
              else none
            else none
          else none
        else none
      else none
    else none
  else none
theorem codec_PutFrame_0 (b_0 : (List UInt8)) (kind_1 : Int) (p_2 : (List UInt8)) (h1 : InR .u8 (IntKind.wrap .u8 (kind_1))) (r2 : (List UInt8)) (h3 : codec_PutText ([(UInt8.ofNat (Int.toNat (IntKind.wrap .u8 (kind_1))))] : List UInt8) p_2 = some r2) (r4 : Int) (h5 : codec_Sum r2 = some r4) (y6 : Int) (h7 : some (IntKind.wrap .u8 (Int.fdiv r4 (2 ^ (min (Int.toNat 24) (IntKind.bits .i64))))) = some y6) (y8 : Int) (h9 : some (IntKind.wrap .u8 (Int.fdiv r4 (2 ^ (min (Int.toNat 16) (IntKind.bits .i64))))) = some y8) (y10 : Int) (h11 : some (IntKind.wrap .u8 (Int.fdiv r4 (2 ^ (min (Int.toNat 8) (IntKind.bits .i64))))) = some y10) (h12 : r2.length + 4 ≤ 4294967296) (h13 : InR .u8 (y6)) (h14 : InR .u8 (y8)) (h15 : InR .u8 (y10)) (h16 : InR .u8 (IntKind.wrap .u8 (r4))) (h17 : 0 + b_0.length ≤ 4294967296) (h18 : b_0.length + ((r2 ++ [(UInt8.ofNat (Int.toNat y6)), (UInt8.ofNat (Int.toNat y8)), (UInt8.ofNat (Int.toNat y10)), (UInt8.ofNat (Int.toNat (IntKind.wrap .u8 (r4))))]).length) ≤ 4294967296) : Ret Try.prog G0 37 [.lst (u8s b_0) b_0.length, .int .i64 kind_1, .lst (u8s p_2) p_2.length] (.vec 0 ((b_0 ++ (r2 ++ [(UInt8.ofNat (Int.toNat y6)), (UInt8.ofNat (Int.toNat y8)), (UInt8.ofNat (Int.toNat y10)), (UInt8.ofNat (Int.toNat (IntKind.wrap .u8 (r4))))])).length) 1) [{ c := (u8s (b_0 ++ (r2 ++ [(UInt8.ofNat (Int.toNat y6)), (UInt8.ofNat (Int.toNat y8)), (UInt8.ofNat (Int.toNat y10)), (UInt8.ofNat (Int.toNat (IntKind.wrap .u8 (r4))))]))), e := 5, ext := true, fz := 0, pl := true, o := true }] :=
  Ret.of_view 400 (cs 2 ((.op none .a) :: (cs 2 ((.op none (.by p_2)) :: (.tr (.eqc 0 (u8s ([(UInt8.ofNat (Int.toNat (IntKind.wrap .u8 (kind_1))))] : List UInt8)))) :: (.ret none [.lst (u8s ([(UInt8.ofNat (Int.toNat (IntKind.wrap .u8 (kind_1))))] : List UInt8)) 1, .str p_2] (.vec 0 r2.length 1) [{ c := (u8s r2), e := 5, ext := true, fz := 0, pl := true, o := true }]) :: (cs 2 ((.ret none [.lst (u8s r2) r2.length] (.int .i64 r4) []) :: (cs 3 ((.op none .a) :: (.op none .a) :: (.tr (.eqt (.t 20) (.int .u8 y6))) :: (.op none .c) :: (.op none .a) :: (.op none .a) :: (.tr (.eqt (.t 23) (.int .u8 y8))) :: (.op none .c) :: (.op none .a) :: (.op none .a) :: (.tr (.eqt (.t 26) (.int .u8 y10))) :: (.op none .c) :: (.op none .a) :: (.op none .c) :: (.op none (.ap 4)) :: (.tr (.eqc 3 (u8s (r2 ++ [(UInt8.ofNat (Int.toNat y6)), (UInt8.ofNat (Int.toNat y8)), (UInt8.ofNat (Int.toNat y10)), (UInt8.ofNat (Int.toNat (IntKind.wrap .u8 (r4))))])))) :: (.tr (.eqt (.t 30) (.vec 3 ((r2 ++ [(UInt8.ofNat (Int.toNat y6)), (UInt8.ofNat (Int.toNat y8)), (UInt8.ofNat (Int.toNat y10)), (UInt8.ofNat (Int.toNat (IntKind.wrap .u8 (r4))))]).length) 1))) :: (cs 3 [.tr (.wid (.t 31)), .op none (.ap 4), .tr (.eqc 5 (u8s b_0)), .tr (.eqt (.t 33) (.vec 5 b_0.length 1)), .op none .c, .op none (.ap 4), .tr (.eqc 6 (u8s (b_0 ++ (r2 ++ [(UInt8.ofNat (Int.toNat y6)), (UInt8.ofNat (Int.toNat y8)), (UInt8.ofNat (Int.toNat y10)), (UInt8.ofNat (Int.toNat (IntKind.wrap .u8 (r4))))])))), .tr (.eqt (.t 35) (.vec 6 ((b_0 ++ (r2 ++ [(UInt8.ofNat (Int.toNat y6)), (UInt8.ofNat (Int.toNat y8)), (UInt8.ofNat (Int.toNat y10)), (UInt8.ofNat (Int.toNat (IntKind.wrap .u8 (r4))))])).length) 1)), .op none .c]))))))))) [6] (ps := [(List.length ((u8s p_2) : List AV) = p_2.length), ((u8s p_2) = u8s p_2), ([.int .u8 (IntKind.wrap .u8 (kind_1))] = (u8s ([(UInt8.ofNat (Int.toNat (IntKind.wrap .u8 (kind_1))))] : List UInt8))), (sub (u8s ([(UInt8.ofNat (Int.toNat (IntKind.wrap .u8 (kind_1))))] : List UInt8)) 0 1 = (u8s ([(UInt8.ofNat (Int.toNat (IntKind.wrap .u8 (kind_1))))] : List UInt8)) ∧ 1 = 1 ∧ 0 + 1 ≤ List.length ((u8s ([(UInt8.ofNat (Int.toNat (IntKind.wrap .u8 (kind_1))))] : List UInt8)) : List AV) ∧ 1 ≤ 1), ((.str p_2 : AV) = .str p_2), (datBlks [{ c := (u8s r2), e := 5, ext := true, fz := 0, pl := true, o := true }]), (Ret Try.prog G0 72 [.lst (u8s ([(UInt8.ofNat (Int.toNat (IntKind.wrap .u8 (kind_1))))] : List UInt8)) 1, .str p_2] (.vec 0 r2.length 1) [{ c := (u8s r2), e := 5, ext := true, fz := 0, pl := true, o := true }]), ((u8s r2) = (u8s r2) ∧ r2.length = r2.length ∧ List.length ((u8s r2) : List AV) = r2.length), (datBlks []), (Ret Try.prog G0 73 [.lst (u8s r2) r2.length] (.int .i64 r4) []), ((0 : Int) ≤ 24), ((.int .u8 (IntKind.wrap .u8 (Int.fdiv r4 (2 ^ (min (Int.toNat 24) (IntKind.bits .i64))))) : AV) = .int .u8 y6), ((0 : Int) ≤ 16), ((.int .u8 (IntKind.wrap .u8 (Int.fdiv r4 (2 ^ (min (Int.toNat 16) (IntKind.bits .i64))))) : AV) = .int .u8 y8), ((0 : Int) ≤ 8), ((.int .u8 (IntKind.wrap .u8 (Int.fdiv r4 (2 ^ (min (Int.toNat 8) (IntKind.bits .i64))))) : AV) = .int .u8 y10), (0 + 4 ≤ List.length ([.int .u8 y6, .int .u8 y8, .int .u8 y10, .int .u8 (IntKind.wrap .u8 (r4))] : List AV)), (List.length ((u8s r2) : List AV) = r2.length), (List.all ([.int .u8 y6, .int .u8 y8, .int .u8 y10, .int .u8 (IntKind.wrap .u8 (r4))] : List AV) AV.one = true), (r2.length + 4 ≤ 4294967296), ((u8s r2) ++ [.int .u8 y6, .int .u8 y8, .int .u8 y10, .int .u8 (IntKind.wrap .u8 (r4))] = (u8s (r2 ++ [(UInt8.ofNat (Int.toNat y6)), (UInt8.ofNat (Int.toNat y8)), (UInt8.ofNat (Int.toNat y10)), (UInt8.ofNat (Int.toNat (IntKind.wrap .u8 (r4))))]))), ((.vec 3 (r2.length + 4) 1 : AV) = .vec 3 ((r2 ++ [(UInt8.ofNat (Int.toNat y6)), (UInt8.ofNat (Int.toNat y8)), (UInt8.ofNat (Int.toNat y10)), (UInt8.ofNat (Int.toNat (IntKind.wrap .u8 (r4))))]).length) 1), (0 ≤ 0), (List.length ((u8s b_0) : List AV) = b_0.length), (List.length ([] : List AV) = 0), (List.all ((u8s b_0) : List AV) AV.one = true), (0 + b_0.length ≤ 4294967296), ([] ++ (u8s b_0) = (u8s b_0)), ((.vec 5 (0 + b_0.length) 1 : AV) = .vec 5 b_0.length 1), (List.length ((u8s (r2 ++ [(UInt8.ofNat (Int.toNat y6)), (UInt8.ofNat (Int.toNat y8)), (UInt8.ofNat (Int.toNat y10)), (UInt8.ofNat (Int.toNat (IntKind.wrap .u8 (r4))))])) : List AV) = ((r2 ++ [(UInt8.ofNat (Int.toNat y6)), (UInt8.ofNat (Int.toNat y8)), (UInt8.ofNat (Int.toNat y10)), (UInt8.ofNat (Int.toNat (IntKind.wrap .u8 (r4))))]).length)), (List.length ((u8s b_0) : List AV) = b_0.length), (List.all ((u8s (r2 ++ [(UInt8.ofNat (Int.toNat y6)), (UInt8.ofNat (Int.toNat y8)), (UInt8.ofNat (Int.toNat y10)), (UInt8.ofNat (Int.toNat (IntKind.wrap .u8 (r4))))])) : List AV) AV.one = true), (b_0.length + ((r2 ++ [(UInt8.ofNat (Int.toNat y6)), (UInt8.ofNat (Int.toNat y8)), (UInt8.ofNat (Int.toNat y10)), (UInt8.ofNat (Int.toNat (IntKind.wrap .u8 (r4))))]).length) ≤ 4294967296), ((u8s b_0) ++ (u8s (r2 ++ [(UInt8.ofNat (Int.toNat y6)), (UInt8.ofNat (Int.toNat y8)), (UInt8.ofNat (Int.toNat y10)), (UInt8.ofNat (Int.toNat (IntKind.wrap .u8 (r4))))])) = (u8s (b_0 ++ (r2 ++ [(UInt8.ofNat (Int.toNat y6)), (UInt8.ofNat (Int.toNat y8)), (UInt8.ofNat (Int.toNat y10)), (UInt8.ofNat (Int.toNat (IntKind.wrap .u8 (r4))))])))), ((.vec 6 (b_0.length + ((r2 ++ [(UInt8.ofNat (Int.toNat y6)), (UInt8.ofNat (Int.toNat y8)), (UInt8.ofNat (Int.toNat y10)), (UInt8.ofNat (Int.toNat (IntKind.wrap .u8 (r4))))]).length)) 1 : AV) = .vec 6 ((b_0 ++ (r2 ++ [(UInt8.ofNat (Int.toNat y6)), (UInt8.ofNat (Int.toNat y8)), (UInt8.ofNat (Int.toNat y10)), (UInt8.ofNat (Int.toNat (IntKind.wrap .u8 (r4))))])).length) 1)]) (by kernel_rfl) (by kernel_rfl) ⟨u8s_length, rfl, (by simp only [u8s, List.map, ← u8_of h1]), ⟨rfl, rfl, Nat.le_of_ble_eq_true rfl, Nat.le_of_ble_eq_true rfl⟩, rfl, ⟨u8s_dat, trivial⟩, (codec_PutText_ret ([(UInt8.ofNat (Int.toNat (IntKind.wrap .u8 (kind_1))))] : List UInt8) p_2 r2 h3), ⟨rfl, rfl, u8s_length⟩, trivial, (codec_Sum_ret r2 r4 h5), (by decide), (congrArg _ (Option.some.inj h7)), (by decide), (congrArg _ (Option.some.inj h9)), (by decide), (congrArg _ (Option.some.inj h11)), (Nat.le_of_ble_eq_true rfl), u8s_length, rfl, h12, (u8s_appc (by simp only [u8s, List.map, ← u8_of h13, ← u8_of h14, ← u8_of h15, ← u8_of h16])), (by simp), (Nat.le_refl _), u8s_length, rfl, (u8s_one _), h17, rfl, (by simp), u8s_length, u8s_length, (u8s_one _), h18, u8s_app.symm, ok1 (by simp)⟩
theorem codec_PutFrame_ret (b_0 : (List UInt8)) (kind_1 : Int) (p_2 : (List UInt8)) (r : (List UInt8)) (h : codec_PutFrame b_0 kind_1 p_2 = some r) : Ret Try.prog G0 37 [.lst (u8s b_0) b_0.length, .int .i64 kind_1, .lst (u8s p_2) p_2.length] (.vec 0 r.length 1) [{ c := (u8s r), e := 5, ext := true, fz := 0, pl := true, o := true }] := by
  unfold codec_PutFrame at h
  obtain ⟨h1, h⟩ := guard_some h
  obtain ⟨r2, h3, h⟩ := bind_some h
  obtain ⟨r4, h5, h⟩ := bind_some h
  obtain ⟨y6, h7, h⟩ := bind_some h
  obtain ⟨y8, h9, h⟩ := bind_some h
  obtain ⟨y10, h11, h⟩ := bind_some h
  obtain ⟨h12, h⟩ := guard_some h
  obtain ⟨h13, h⟩ := guard_some h
  obtain ⟨h14, h⟩ := guard_some h
  obtain ⟨h15, h⟩ := guard_some h
  obtain ⟨h16, h⟩ := guard_some h
  obtain ⟨h17, h⟩ := guard_some h
  obtain ⟨h18, h⟩ := guard_some h
  simp only [Option.some.injEq] at h
  subst h
  exact codec_PutFrame_0 b_0 kind_1 p_2 h1 r2 h3 r4 h5 y6 h7 y8 h9 y10 h11 h12 h13 h14 h15 h16 h17 h18
end Go.Proofs.Yteljonodbkkckaa.Av
