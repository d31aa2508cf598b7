import Derived.Test.YtpadimnchmghpaaGreatDoorAvZ
import Derived.Test.YtpadimnchmghpaaGreatDoorProg
import Derived.Tactics
import Derived.Test.YtpadimnchmghpaaGreatDoorM1
set_option linter.unusedVariables false
set_option linter.unusedSimpArgs false
set_option maxHeartbeats 4000000
namespace Go.Proofs.YtpadimnchmghpaaGreatDoor.Av
open Go Go.Proofs
noncomputable def codec_PutInt_L8_step  : (Int × (List UInt8)) → Option ((Int × (List UInt8)) ⊕ (Int × (List UInt8)))
  | (v5, b1) =>
    if v5 ≥ (128 : Int) then
      if InR .u8 (Int.tmod v5 128) then
        if InR .u8 ((Int.tmod v5 128) + 128) then
          if b1.length + 1 ≤ 4294967296 then
            if InR .u64 (Int.tdiv v5 128) then
              some (Sum.inl ((Int.tdiv v5 128), (b1 ++ [(UInt8.ofNat (Int.toNat ((Int.tmod v5 128) + 128)))])))
            else none
          else none
        else none
      else none
    else
      some (Sum.inr (v5, b1))
def codec_PutInt_L8_H  : (Int × (List UInt8)) → St := fun (s : (Int × (List UInt8))) => S 37 [(5, .int .u64 s.1), (6, .vec 0 s.2.length 1)] [(bV (u8s s.2) 5)]
theorem codec_PutInt_L8_0  (v5 : Int) (b1 : (List UInt8)) (c14 : v5 ≥ (128 : Int)) (h15 : InR .u8 (Int.tmod v5 128)) (h16 : InR .u8 ((Int.tmod v5 128) + 128)) (h17 : b1.length + 1 ≤ 4294967296) (h18 : InR .u64 (Int.tdiv v5 128)) : Does Tryz.prog G0 0 (bodyAt Tryz.prog 55 [1, 1, 1, 1, 0, 0, 0]) (codec_PutInt_L8_H  (v5, b1)) .normal (S 37 [(5, .int .u64 (Int.tdiv v5 128)), (6, .vec 0 ((b1 ++ [(UInt8.ofNat (Int.toNat ((Int.tmod v5 128) + 128)))]).length) 1)] [(bV (u8s (b1 ++ [(UInt8.ofNat (Int.toNat ((Int.tmod v5 128) + 128)))])) 5)]) :=
  Does.of_viewM 0 400 ((.op none .c) :: (.op none .a) :: (.br true) :: (cs 2 ((.op none .a) :: (.op none .w) :: (.op none .w) :: (.op none .c) :: (.op none (.ap 4)) :: (.tr (.eqc 2 (u8s (b1 ++ [(UInt8.ofNat (Int.toNat ((Int.tmod v5 128) + 128)))])))) :: (.tr (.eqt (.t 29) (.vec 2 ((b1 ++ [(UInt8.ofNat (Int.toNat ((Int.tmod v5 128) + 128)))]).length) 1))) :: (cs 2 [.op none .w, .op none .c])))) [2] (ps := [((decide (v5 ≥ (128 : Int))) = true), (128 ≠ (0 : Int)), (IntKind.min .u8 ≤ (Int.tmod v5 128) ∧ (Int.tmod v5 128) ≤ IntKind.max .u8), (IntKind.min .u8 ≤ ((Int.tmod v5 128) + 128) ∧ ((Int.tmod v5 128) + 128) ≤ IntKind.max .u8), (0 + 1 ≤ List.length ([.int .u8 ((Int.tmod v5 128) + 128)] : List AV)), (List.length ((u8s b1) : List AV) = b1.length), (List.all ([.int .u8 ((Int.tmod v5 128) + 128)] : List AV) AV.one = true), (b1.length + 1 ≤ 4294967296), ((u8s b1) ++ [.int .u8 ((Int.tmod v5 128) + 128)] = (u8s (b1 ++ [(UInt8.ofNat (Int.toNat ((Int.tmod v5 128) + 128)))]))), ((.vec 2 (b1.length + 1) 1 : AV) = .vec 2 ((b1 ++ [(UInt8.ofNat (Int.toNat ((Int.tmod v5 128) + 128)))]).length) 1), (128 ≠ (0 : Int)), (IntKind.min .u64 ≤ (Int.tdiv v5 128) ∧ (Int.tdiv v5 128) ≤ IntKind.max .u64)]) (by kernel_rfl) (by kernel_rfl) ⟨(decide_eq_true c14), (by decide), h15, h16, (Nat.le_of_ble_eq_true rfl), u8s_length, rfl, h17, (u8s_snoc (congrArg (fun q => [q]) (u8_of h16))), (by simp <;> omega), (by decide), ok1 h18⟩
theorem codec_PutInt_L8_1  (v5 : Int) (b1 : (List UInt8)) (c14 : ¬ (v5 ≥ (128 : Int))) : Does Tryz.prog G0 0 (bodyAt Tryz.prog 55 [1, 1, 1, 1, 0, 0, 0]) (codec_PutInt_L8_H  (v5, b1)) (.exit 0) (S 37 [(5, .int .u64 v5), (6, .vec 0 b1.length 1)] [(bV (u8s b1) 5)]) :=
  Does.of_viewM 0 400 [.op none .c, .op none .a, .br false] [0] (ps := [((decide (v5 ≥ (128 : Int))) = false)]) (by kernel_rfl) (by kernel_rfl) (ok1 (decide_eq_false c14))
def codec_PutInt_L8_X  : (Int × (List UInt8)) → AEx := fun o => (.exit 0)
def codec_PutInt_L8_E  : (Int × (List UInt8)) → St := fun o => S 37 [(5, .int .u64 o.1), (6, .vec 0 o.2.length 1)] [(bV (u8s o.2) 5)]
theorem codec_PutInt_L8_does  {s : (Int × (List UInt8))} {r : (Int × (List UInt8))} (h : lp (codec_PutInt_L8_step ) s = some r) : Does Tryz.prog G0 0 (.loop (bodyAt Tryz.prog 55 [1, 1, 1, 1, 0, 0, 0])) (codec_PutInt_L8_H  s) (codec_PutInt_L8_X  r) (codec_PutInt_L8_E  r) := by
  refine Does.lp (H := codec_PutInt_L8_H ) (X := codec_PutInt_L8_X ) (E := codec_PutInt_L8_E ) (fun s s2 h => ?_) (fun s r h => ?_) h
  · obtain ⟨v5, b1⟩ := s
    unfold codec_PutInt_L8_step at h
    try dsimp only at h
    rcases ite_some h with ⟨c14, h⟩ | ⟨c14, h⟩
    · obtain ⟨h15, h⟩ := guard_some h
      obtain ⟨h16, h⟩ := guard_some h
      obtain ⟨h17, h⟩ := guard_some h
      obtain ⟨h18, h⟩ := guard_some h
      simp only [Option.some.injEq, Sum.inl.injEq] at h
      subst h
      have hq := codec_PutInt_L8_0 v5 b1 c14 h15 h16 h17 h18
      first | exact hq | exact Eq.mp (by simp only [codec_PutInt_L8_H, List.length_set] <;> rfl) hq
    · simp at h
  · obtain ⟨v5, b1⟩ := s
    unfold codec_PutInt_L8_step at h
    try dsimp only at h
    rcases ite_some h with ⟨c14, h⟩ | ⟨c14, h⟩
    · obtain ⟨h15, h⟩ := guard_some h
      obtain ⟨h16, h⟩ := guard_some h
      obtain ⟨h17, h⟩ := guard_some h
      obtain ⟨h18, h⟩ := guard_some h
      simp at h
    · simp only [Option.some.injEq, Sum.inr.injEq] at h
      subst h
      exact ⟨codec_PutInt_L8_1 v5 b1 c14, by intro q; cases q⟩
noncomputable def codec_PutInt (b_0 : (List UInt8)) (n_1 : Int) : Option (List UInt8) :=
  if n_1 < (0 : Int) then
    if InR .i64 (n_1 + 1) then
      if InR .i64 (0 - (n_1 + 1)) then
        if InR .u64 (0 - (n_1 + 1)) then
          if InR .u64 ((0 - (n_1 + 1)) * 2) then
            if InR .u64 (((0 - (n_1 + 1)) * 2) + 1) then
              if 0 + b_0.length ≤ 4294967296 then
                (lp (codec_PutInt_L8_step) ((((0 - (n_1 + 1)) * 2) + 1), b_0)).bind fun o8 =>
                if InR .u8 (o8.1) then
                  if o8.2.length + 1 ≤ 4294967296 then
                    some (o8.2 ++ [(UInt8.ofNat (Int.toNat o8.1))])
                  else none
                else none
              else none
            else none
          else none
        else none
      else none
    else none
  else
    if 0 + b_0.length ≤ 4294967296 then
      (lp (codec_PutInt_L8_step) ((IntKind.wrap .u64 ((IntKind.wrap .u64 (n_1)) * 2)), b_0)).bind fun o22 =>
      if InR .u8 (o22.1) then
        if o22.2.length + 1 ≤ 4294967296 then
          some (o22.2 ++ [(UInt8.ofNat (Int.toNat o22.1))])
        else none
      else none
    else none
def codec_PutInt_h1  : List CH := (cs 2 ((.op none .a) :: (.op none .a) :: (cs 2 [.op none .a])))
theorem codec_PutInt_0 (b_0 : (List UInt8)) (n_1 : Int) (c1 : n_1 < (0 : Int)) (h2 : InR .i64 (n_1 + 1)) (h3 : InR .i64 (0 - (n_1 + 1))) (h4 : InR .u64 (0 - (n_1 + 1))) (h5 : InR .u64 ((0 - (n_1 + 1)) * 2)) (h6 : InR .u64 (((0 - (n_1 + 1)) * 2) + 1)) (h7 : 0 + b_0.length ≤ 4294967296) (o8 : (Int × (List UInt8))) (hl8 : lp (codec_PutInt_L8_step) ((((0 - (n_1 + 1)) * 2) + 1), b_0) = some o8) (h19 : InR .u8 (o8.1)) (h20 : o8.2.length + 1 ≤ 4294967296) : Ret Tryz.prog G0 55 [.lst (u8s b_0) b_0.length, .int .i64 n_1] (.vec 0 ((o8.2 ++ [(UInt8.ofNat (Int.toNat o8.1))]).length) 1) [(bV (u8s (o8.2 ++ [(UInt8.ofNat (Int.toNat o8.1))])) 5)] :=
  Ret.of_view 400 ((codec_PutInt_h1) ++ ((.br true) :: (.op none .c) :: (.op none .w) :: (.op none .w) :: (.op none .w) :: (.op none .w) :: (.op none .w) :: (cs 3 ((.tr (.wid (.t 18))) :: (.op none (.ap 4)) :: (.tr (.eqc 1 (u8s b_0))) :: (.tr (.eqt (.t 20) (.vec 1 b_0.length 1))) :: (.op none .c) :: (.fcut 0 (.exit 0) [(5, .int .u64 o8.1), (6, .vec 0 o8.2.length 1)] [(bV (u8s o8.2) 5)] [1] [(5, .int .u64 (((0 - (n_1 + 1)) * 2) + 1)), (6, .vec 0 b_0.length 1)] [(bV (u8s b_0) 5)]) :: (cs 2 [.op none .w, .op none .c, .op none (.ap 4), .tr (.eqc 4 (u8s (o8.2 ++ [(UInt8.ofNat (Int.toNat o8.1))]))), .tr (.eqt (.t 36) (.vec 4 ((o8.2 ++ [(UInt8.ofNat (Int.toNat o8.1))]).length) 1)), .op none .c]))))) [4] (ps := [((decide (n_1 < (0 : Int))) = true), (IntKind.min .i64 ≤ (n_1 + 1) ∧ (n_1 + 1) ≤ IntKind.max .i64), (IntKind.min .i64 ≤ (0 - (n_1 + 1)) ∧ (0 - (n_1 + 1)) ≤ IntKind.max .i64), (IntKind.min .u64 ≤ (0 - (n_1 + 1)) ∧ (0 - (n_1 + 1)) ≤ IntKind.max .u64), (IntKind.min .u64 ≤ ((0 - (n_1 + 1)) * 2) ∧ ((0 - (n_1 + 1)) * 2) ≤ IntKind.max .u64), (IntKind.min .u64 ≤ (((0 - (n_1 + 1)) * 2) + 1) ∧ (((0 - (n_1 + 1)) * 2) + 1) ≤ IntKind.max .u64), (0 ≤ 0), (List.length ((u8s b_0) : List AV) = b_0.length), (List.length ([] : List AV) = 0), (List.all ((u8s b_0) : List AV) AV.one = true), (0 + b_0.length ≤ 4294967296), ([] ++ (u8s b_0) = (u8s b_0)), ((.vec 1 (0 + b_0.length) 1 : AV) = .vec 1 b_0.length 1), ((.int .u64 (((0 - (n_1 + 1)) * 2) + 1) : AV) = .int .u64 (((0 - (n_1 + 1)) * 2) + 1)), ((.vec 1 b_0.length 1 : AV) = .vec 1 b_0.length 1), (((bV (u8s b_0) 5) : Blk) = renB [1] (bV (u8s b_0) 5)), (Does Tryz.prog G0 0 (.loop (bodyAt Tryz.prog 55 [1, 1, 1, 1, 0, 0, 0])) (S 37 [(5, .int .u64 (((0 - (n_1 + 1)) * 2) + 1)), (6, .vec 0 b_0.length 1)] [(bV (u8s b_0) 5)]) (.exit 0) (S 37 [(5, .int .u64 o8.1), (6, .vec 0 o8.2.length 1)] [(bV (u8s o8.2) 5)])), (IntKind.min .u8 ≤ o8.1 ∧ o8.1 ≤ IntKind.max .u8), (0 + 1 ≤ List.length ([.int .u8 o8.1] : List AV)), (List.length ((u8s o8.2) : List AV) = o8.2.length), (List.all ([.int .u8 o8.1] : List AV) AV.one = true), (o8.2.length + 1 ≤ 4294967296), ((u8s o8.2) ++ [.int .u8 o8.1] = (u8s (o8.2 ++ [(UInt8.ofNat (Int.toNat o8.1))]))), ((.vec 4 (o8.2.length + 1) 1 : AV) = .vec 4 ((o8.2 ++ [(UInt8.ofNat (Int.toNat o8.1))]).length) 1)]) (by kernel_rfl) (by kernel_rfl) ⟨(decide_eq_true c1), h2, h3, h4, h5, h6, (Nat.le_refl _), u8s_length, rfl, (u8s_one _), h7, rfl, (by simp <;> omega), rfl, (by first | rfl | simp only [List.length_replicate, List.length_set]), rfl, (codec_PutInt_L8_does (s := ((((0 - (n_1 + 1)) * 2) + 1), b_0)) (r := o8) hl8), h19, (Nat.le_of_ble_eq_true rfl), u8s_length, rfl, h20, (u8s_snoc (congrArg (fun q => [q]) (u8_of h19))), ok1 (by simp <;> omega)⟩
theorem codec_PutInt_1 (b_0 : (List UInt8)) (n_1 : Int) (c1 : ¬ (n_1 < (0 : Int))) (h21 : 0 + b_0.length ≤ 4294967296) (o22 : (Int × (List UInt8))) (hl22 : lp (codec_PutInt_L8_step) ((IntKind.wrap .u64 ((IntKind.wrap .u64 (n_1)) * 2)), b_0) = some o22) (h33 : InR .u8 (o22.1)) (h34 : o22.2.length + 1 ≤ 4294967296) : Ret Tryz.prog G0 55 [.lst (u8s b_0) b_0.length, .int .i64 n_1] (.vec 0 ((o22.2 ++ [(UInt8.ofNat (Int.toNat o22.1))]).length) 1) [(bV (u8s (o22.2 ++ [(UInt8.ofNat (Int.toNat o22.1))])) 5)] :=
  Ret.of_view 400 ((codec_PutInt_h1) ++ ((.br false) :: (cs 2 ((.tr (.wid (.t 18))) :: (.op none (.ap 4)) :: (.tr (.eqc 1 (u8s b_0))) :: (.tr (.eqt (.t 20) (.vec 1 b_0.length 1))) :: (.op none .c) :: (.fcut 0 (.exit 0) [(5, .int .u64 o22.1), (6, .vec 0 o22.2.length 1)] [(bV (u8s o22.2) 5)] [1] [(5, .int .u64 (IntKind.wrap .u64 ((IntKind.wrap .u64 (n_1)) * 2))), (6, .vec 0 b_0.length 1)] [(bV (u8s b_0) 5)]) :: (cs 2 [.op none .w, .op none .c, .op none (.ap 4), .tr (.eqc 4 (u8s (o22.2 ++ [(UInt8.ofNat (Int.toNat o22.1))]))), .tr (.eqt (.t 36) (.vec 4 ((o22.2 ++ [(UInt8.ofNat (Int.toNat o22.1))]).length) 1)), .op none .c]))))) [4] (ps := [((decide (n_1 < (0 : Int))) = false), (0 ≤ 0), (List.length ((u8s b_0) : List AV) = b_0.length), (List.length ([] : List AV) = 0), (List.all ((u8s b_0) : List AV) AV.one = true), (0 + b_0.length ≤ 4294967296), ([] ++ (u8s b_0) = (u8s b_0)), ((.vec 1 (0 + b_0.length) 1 : AV) = .vec 1 b_0.length 1), ((.int .u64 (IntKind.wrap .u64 ((IntKind.wrap .u64 (n_1)) * 2)) : AV) = .int .u64 (IntKind.wrap .u64 ((IntKind.wrap .u64 (n_1)) * 2))), ((.vec 1 b_0.length 1 : AV) = .vec 1 b_0.length 1), (((bV (u8s b_0) 5) : Blk) = renB [1] (bV (u8s b_0) 5)), (Does Tryz.prog G0 0 (.loop (bodyAt Tryz.prog 55 [1, 1, 1, 1, 0, 0, 0])) (S 37 [(5, .int .u64 (IntKind.wrap .u64 ((IntKind.wrap .u64 (n_1)) * 2))), (6, .vec 0 b_0.length 1)] [(bV (u8s b_0) 5)]) (.exit 0) (S 37 [(5, .int .u64 o22.1), (6, .vec 0 o22.2.length 1)] [(bV (u8s o22.2) 5)])), (IntKind.min .u8 ≤ o22.1 ∧ o22.1 ≤ IntKind.max .u8), (0 + 1 ≤ List.length ([.int .u8 o22.1] : List AV)), (List.length ((u8s o22.2) : List AV) = o22.2.length), (List.all ([.int .u8 o22.1] : List AV) AV.one = true), (o22.2.length + 1 ≤ 4294967296), ((u8s o22.2) ++ [.int .u8 o22.1] = (u8s (o22.2 ++ [(UInt8.ofNat (Int.toNat o22.1))]))), ((.vec 4 (o22.2.length + 1) 1 : AV) = .vec 4 ((o22.2 ++ [(UInt8.ofNat (Int.toNat o22.1))]).length) 1)]) (by kernel_rfl) (by kernel_rfl) ⟨(decide_eq_false c1), (Nat.le_refl _), u8s_length, rfl, (u8s_one _), h21, rfl, (by simp <;> omega), rfl, (by first | rfl | simp only [List.length_replicate, List.length_set]), rfl, (codec_PutInt_L8_does (s := ((IntKind.wrap .u64 ((IntKind.wrap .u64 (n_1)) * 2)), b_0)) (r := o22) hl22), h33, (Nat.le_of_ble_eq_true rfl), u8s_length, rfl, h34, (u8s_snoc (congrArg (fun q => [q]) (u8_of h33))), ok1 (by simp <;> omega)⟩
theorem codec_PutInt_ret (b_0 : (List UInt8)) (n_1 : Int) (r : (List UInt8)) (h : codec_PutInt b_0 n_1 = some r) : Ret Tryz.prog G0 55 [.lst (u8s b_0) b_0.length, .int .i64 n_1] (.vec 0 r.length 1) [(bV (u8s r) 5)] := by
  unfold codec_PutInt at h
  rcases ite_some h with ⟨c1, h⟩ | ⟨c1, h⟩
  · obtain ⟨h2, h⟩ := guard_some h
    obtain ⟨h3, h⟩ := guard_some h
    obtain ⟨h4, h⟩ := guard_some h
    obtain ⟨h5, h⟩ := guard_some h
    obtain ⟨h6, h⟩ := guard_some h
    obtain ⟨h7, h⟩ := guard_some h
    obtain ⟨o8, hl8, h⟩ := bind_some h
    obtain ⟨h19, h⟩ := guard_some h
    obtain ⟨h20, h⟩ := guard_some h
    simp only [Option.some.injEq] at h
    subst h
    exact codec_PutInt_0 b_0 n_1 c1 h2 h3 h4 h5 h6 h7 o8 hl8 h19 h20
  · obtain ⟨h21, h⟩ := guard_some h
    obtain ⟨o22, hl22, h⟩ := bind_some h
    obtain ⟨h33, h⟩ := guard_some h
    obtain ⟨h34, h⟩ := guard_some h
    simp only [Option.some.injEq] at h
    subst h
    exact codec_PutInt_1 b_0 n_1 c1 h21 o22 hl22 h33 h34
noncomputable def codec_PutText (b_0 : (List UInt8)) (s_1 : (List UInt8)) : Option (List UInt8) :=
  (codec_PutInt b_0 (↑s_1.length : Int)).bind fun r1 =>
  if r1.length + s_1.length ≤ 4294967296 then
    some (r1 ++ s_1)
  else none
theorem codec_PutText_0 (b_0 : (List UInt8)) (s_1 : (List UInt8)) (r1 : (List UInt8)) (h2 : codec_PutInt b_0 (↑s_1.length : Int) = some r1) (h3 : r1.length + s_1.length ≤ 4294967296) : Ret Tryz.prog G0 54 [.lst (u8s b_0) b_0.length, .str s_1] (.vec 0 ((r1 ++ s_1).length) 1) [(bV (u8s (r1 ++ s_1)) 5)] :=
  Ret.of_view 400 (cs 4 [.ret none [.lst (u8s b_0) b_0.length, .int .i64 (↑s_1.length : Int)] (.vec 0 r1.length 1) [(bV (u8s r1) 5)], .op none .c, .op none (.ap 4), .tr (.eqc 1 (u8s (r1 ++ s_1))), .tr (.eqt (.t 10) (.vec 1 ((r1 ++ s_1).length) 1)), .op none .c]) [1] (ps := [((.lst (u8s b_0) b_0.length : AV) = .lst (u8s b_0) b_0.length), ((.int .i64 (↑s_1.length : Int) : AV) = .int .i64 (↑s_1.length : Int)), (Ret Tryz.prog G0 55 [.lst (u8s b_0) b_0.length, .int .i64 (↑s_1.length : Int)] (.vec 0 r1.length 1) [(bV (u8s r1) 5)]), (List.length ((u8s r1) : List AV) = r1.length), (List.all ((u8s s_1) : List AV) AV.one = true), (r1.length + s_1.length ≤ 4294967296), ((u8s r1) ++ (u8s s_1) = (u8s (r1 ++ s_1))), ((.vec 1 (r1.length + s_1.length) 1 : AV) = .vec 1 ((r1 ++ s_1).length) 1)]) (by kernel_rfl) (by kernel_rfl) ⟨rfl, rfl, (codec_PutInt_ret b_0 (↑s_1.length : Int) r1 h2), u8s_length, (u8s_one _), h3, u8s_app.symm, ok1 (by simp <;> omega)⟩
theorem codec_PutText_ret (b_0 : (List UInt8)) (s_1 : (List UInt8)) (r : (List UInt8)) (h : codec_PutText b_0 s_1 = some r) : Ret Tryz.prog G0 54 [.lst (u8s b_0) b_0.length, .str s_1] (.vec 0 r.length 1) [(bV (u8s r) 5)] := by
  unfold codec_PutText at h
  obtain ⟨r1, h2, h⟩ := bind_some h
  obtain ⟨h3, h⟩ := guard_some h
  simp only [Option.some.injEq] at h
  subst h
  exact codec_PutText_0 b_0 s_1 r1 h2 h3
noncomputable def digest_Hash_L1_step (b_0 : (List UInt8)) : (Int × Nat) → Option ((Int × Nat) ⊕ Int)
  | (v3, k8) =>
    if (↑k8 : Int) < (↑b_0.length : Int) then
      (b_0[k8]?).bind fun x10 =>
      if InR .u64 ((x10.toNat : Int)) then
        (some (IntKind.wrap .u64 ((BitVec.ofInt (IntKind.bits .u64) v3 ^^^ BitVec.ofInt (IntKind.bits .u64) (x10.toNat : Int)).toNat : Int))).bind fun y13 =>
        if InR .i64 ((↑k8 : Int) + 1) then
          some (Sum.inl ((IntKind.wrap .u64 (y13 * 1099511628211)), (k8 + 1)))
        else none
      else none
    else
      some (Sum.inr v3)
def digest_Hash_L1_H (b_0 : (List UInt8)) : (Int × Nat) → St := fun (s : (Int × Nat)) => S 19 [(3, .int .u64 s.1), (6, .lst (u8s b_0) b_0.length), (7, .int .i64 (↑b_0.length : Int)), (8, .int .i64 (↑s.2 : Int))] []
theorem digest_Hash_L1_0 (b_0 : (List UInt8)) (v3 : Int) (k8 : Nat) (c9 : (↑k8 : Int) < (↑b_0.length : Int)) (x10 : UInt8) (h11 : b_0[k8]? = some x10) (h12 : InR .u64 ((x10.toNat : Int))) (y13 : Int) (h14 : some (IntKind.wrap .u64 ((BitVec.ofInt (IntKind.bits .u64) v3 ^^^ BitVec.ofInt (IntKind.bits .u64) (x10.toNat : Int)).toNat : Int)) = some y13) (h15 : InR .i64 ((↑k8 : Int) + 1)) : Does Tryz.prog G0 0 (bodyAt Tryz.prog 56 [1, 1, 0, 1, 0, 0]) (digest_Hash_L1_H b_0 (v3, k8)) .normal (S 19 [(3, .int .u64 (IntKind.wrap .u64 (y13 * 1099511628211))), (6, .lst (u8s b_0) b_0.length), (7, .int .i64 (↑b_0.length : Int)), (8, .int .i64 ((↑k8 : Int) + 1))] []) :=
  Does.of_viewM 0 400 ((.op none .a) :: (.br true) :: (.op none (.i k8)) :: (.op none (.v [.int .u8 (x10.toNat : Int)])) :: (cs 3 [.op none .w, .op none .a, .tr (.eqt (.t 15) (.int .u64 y13)), .op none .a, .op none .c, .op none .w, .op none .c])) [] (ps := [((decide ((↑k8 : Int) < (↑b_0.length : Int))) = true), ((↑k8 : Int) = ((k8 : Nat) : Int) ∧ k8 < b_0.length), ((u8s b_0) ≠ []), (sub (u8s b_0) k8 1 = [.int .u8 (x10.toNat : Int)]), (IntKind.min .u64 ≤ (x10.toNat : Int) ∧ (x10.toNat : Int) ≤ IntKind.max .u64), ((.int .u64 (IntKind.wrap .u64 ((BitVec.ofInt (IntKind.bits .u64) v3 ^^^ BitVec.ofInt (IntKind.bits .u64) (x10.toNat : Int)).toNat : Int)) : AV) = .int .u64 y13), (IntKind.min .i64 ≤ ((↑k8 : Int) + 1) ∧ ((↑k8 : Int) + 1) ≤ IntKind.max .i64)]) (by kernel_rfl) (by kernel_rfl) ⟨(decide_eq_true c9), ⟨rfl, get_lt h11⟩, (u8s_ne h11), (u8s_sub1 h11), h12, (congrArg _ (Option.some.inj h14)), ok1 h15⟩
theorem digest_Hash_L1_1 (b_0 : (List UInt8)) (v3 : Int) (k8 : Nat) (c9 : ¬ ((↑k8 : Int) < (↑b_0.length : Int))) : Does Tryz.prog G0 0 (bodyAt Tryz.prog 56 [1, 1, 0, 1, 0, 0]) (digest_Hash_L1_H b_0 (v3, k8)) (.exit 0) (S 19 [(3, .int .u64 v3)] []) :=
  Does.of_viewM 0 400 [.op none .a, .br false] [] (ps := [((decide ((↑k8 : Int) < (↑b_0.length : Int))) = false)]) (by kernel_rfl) (by kernel_rfl) (ok1 (decide_eq_false c9))
def digest_Hash_L1_X (b_0 : (List UInt8)) : Int → AEx := fun o => (.exit 0)
def digest_Hash_L1_E (b_0 : (List UInt8)) : Int → St := fun o => S 19 [(3, .int .u64 o)] []
theorem digest_Hash_L1_does (b_0 : (List UInt8)) {s : (Int × Nat)} {r : Int} (h : lp (digest_Hash_L1_step b_0) s = some r) : Does Tryz.prog G0 0 (.loop (bodyAt Tryz.prog 56 [1, 1, 0, 1, 0, 0])) (digest_Hash_L1_H b_0 s) (digest_Hash_L1_X b_0 r) (digest_Hash_L1_E b_0 r) := by
  refine Does.lp (H := digest_Hash_L1_H b_0) (X := digest_Hash_L1_X b_0) (E := digest_Hash_L1_E b_0) (fun s s2 h => ?_) (fun s r h => ?_) h
  · obtain ⟨v3, k8⟩ := s
    unfold digest_Hash_L1_step at h
    try dsimp only at h
    rcases ite_some h with ⟨c9, h⟩ | ⟨c9, h⟩
    · obtain ⟨x10, h11, h⟩ := bind_some h
      obtain ⟨h12, h⟩ := guard_some h
      obtain ⟨y13, h14, h⟩ := bind_some h
      obtain ⟨h15, h⟩ := guard_some h
      simp only [Option.some.injEq, Sum.inl.injEq] at h
      subst h
      have hq := digest_Hash_L1_0 b_0 v3 k8 c9 x10 h11 h12 y13 h14 h15
      first | exact hq | exact Eq.mp (by simp only [digest_Hash_L1_H, List.length_set] <;> rfl) hq
    · simp at h
  · obtain ⟨v3, k8⟩ := s
    unfold digest_Hash_L1_step at h
    try dsimp only at h
    rcases ite_some h with ⟨c9, h⟩ | ⟨c9, h⟩
    · obtain ⟨x10, h11, h⟩ := bind_some h
      obtain ⟨h12, h⟩ := guard_some h
      obtain ⟨y13, h14, h⟩ := bind_some h
      obtain ⟨h15, h⟩ := guard_some h
      simp at h
    · simp only [Option.some.injEq, Sum.inr.injEq] at h
      subst h
      exact ⟨digest_Hash_L1_1 b_0 v3 k8 c9, by intro q; cases q⟩
noncomputable def digest_Hash (b_0 : (List UInt8)) : Option Int :=
  (lp (digest_Hash_L1_step b_0) ((14695981039346656037 : Int), (0 : Nat))).bind fun o1 =>
  some o1
theorem digest_Hash_0 (b_0 : (List UInt8)) (o1 : Int) (hl1 : lp (digest_Hash_L1_step b_0) ((14695981039346656037 : Int), (0 : Nat)) = some o1) : Ret Tryz.prog G0 56 [.lst (u8s b_0) b_0.length] (.int .u64 o1) [] :=
  Ret.of_view 400 (cs 5 ((.fcut 0 (.exit 0) [(3, .int .u64 o1)] [] [] [(3, .int .u64 (14695981039346656037 : Int)), (6, .lst (u8s b_0) b_0.length), (7, .int .i64 (↑b_0.length : Int)), (8, .int .i64 (↑(0 : Nat) : Int))] []) :: (cs 2 []))) [] (ps := [((.int .u64 14695981039346656037 : AV) = .int .u64 (14695981039346656037 : Int)), ((.lst (u8s b_0) b_0.length : AV) = .lst (u8s b_0) b_0.length), ((.int .i64 (↑b_0.length : Int) : AV) = .int .i64 (↑b_0.length : Int)), ((.int .i64 0 : AV) = .int .i64 (↑(0 : Nat) : Int)), (Does Tryz.prog G0 0 (.loop (bodyAt Tryz.prog 56 [1, 1, 0, 1, 0, 0])) (S 19 [(3, .int .u64 (14695981039346656037 : Int)), (6, .lst (u8s b_0) b_0.length), (7, .int .i64 (↑b_0.length : Int)), (8, .int .i64 (↑(0 : Nat) : Int))] []) (.exit 0) (S 19 [(3, .int .u64 o1)] []))]) (by kernel_rfl) (by kernel_rfl) ⟨rfl, rfl, rfl, rfl, ok1 (digest_Hash_L1_does b_0 (s := ((14695981039346656037 : Int), (0 : Nat))) (r := o1) hl1)⟩
theorem digest_Hash_ret (b_0 : (List UInt8)) (r : Int) (h : digest_Hash b_0 = some r) : Ret Tryz.prog G0 56 [.lst (u8s b_0) b_0.length] (.int .u64 r) [] := by
  unfold digest_Hash at h
  obtain ⟨o1, hl1, h⟩ := bind_some h
  simp only [Option.some.injEq] at h
  subst h
  exact digest_Hash_0 b_0 o1 hl1
noncomputable def audit_leaf_L7_step (x_0 : Tapi_Charge) : (Nat × (List Int) × (List UInt8)) → Option ((Nat × (List Int) × (List UInt8)) ⊕ ((List Int) × (List UInt8)))
  | (k30, b4, b3) =>
    if (↑k30 : Int) < (4 : Int) then
      (b4[k30]?).bind fun x22 =>
      (codec_PutInt b3 x22).bind fun r24 =>
      if InR .i64 ((↑k30 : Int) + 1) then
        some (Sum.inl ((k30 + 1), b4, r24))
      else none
    else
      some (Sum.inr (b4, b3))
def audit_leaf_L7_H (x_0 : Tapi_Charge) : (Nat × (List Int) × (List UInt8)) → St := fun (s : (Nat × (List Int) × (List UInt8))) => S 55 [(1, .ptr 0 0), (3, .vec 2 s.2.2.length 1), (28, .sl 1 0 s.2.1.length s.2.1.length true 1), (29, .int .i64 4), (30, .int .i64 (↑s.1 : Int))] [(bT (Tapi_Charge.enc x_0) 35), (bT (fl e_i64 s.2.1) 3), (bV (u8s s.2.2) 5)]
theorem audit_leaf_L7_0 (x_0 : Tapi_Charge) (k30 : Nat) (b4 : (List Int)) (b3 : (List UInt8)) (c21 : (↑k30 : Int) < (4 : Int)) (x22 : Int) (h23 : b4[k30]? = some x22) (r24 : (List UInt8)) (h25 : codec_PutInt b3 x22 = some r24) (h26 : InR .i64 ((↑k30 : Int) + 1)) : Does Tryz.prog G0 2 (bodyAt Tryz.prog 29 [1, 1, 1, 1, 0, 1, 0, 0]) (audit_leaf_L7_H x_0 (k30, b4, b3)) .normal (S 55 [(1, .ptr 0 0), (3, .vec 2 r24.length 1), (28, .sl 1 0 b4.length b4.length true 1), (29, .int .i64 4), (30, .int .i64 ((↑k30 : Int) + 1))] [(bT (Tapi_Charge.enc x_0) 35), (bT (fl e_i64 b4) 3), (bV (u8s r24) 5)]) :=
  Does.of_viewM 2 400 ((.op none .a) :: (.br true) :: (.op none (.i k30)) :: (.op none (.v [.int .i64 x22])) :: (cs 3 [.ret none [.lst (u8s b3) b3.length, .int .i64 x22] (.vec 0 r24.length 1) [(bV (u8s r24) 5)], .op none .c, .op none .w, .op none .c])) [0, 1, 3] (ps := [((decide ((↑k30 : Int) < (4 : Int))) = true), ((↑k30 : Int) = ((k30 : Nat) : Int) ∧ k30 < b4.length), (sub (fl e_i64 b4) k30 1 = [.int .i64 x22]), ((u8s b3) = (u8s b3) ∧ b3.length = b3.length ∧ List.length ((u8s b3) : List AV) = b3.length), ((.int .i64 x22 : AV) = .int .i64 x22), (datBlks [(bV (u8s r24) 5)]), (Ret Tryz.prog G0 55 [.lst (u8s b3) b3.length, .int .i64 x22] (.vec 0 r24.length 1) [(bV (u8s r24) 5)]), (IntKind.min .i64 ≤ ((↑k30 : Int) + 1) ∧ ((↑k30 : Int) + 1) ≤ IntKind.max .i64)]) (by kernel_rfl) (by kernel_rfl) ⟨(decide_eq_true c21), ⟨rfl, get_lt h23⟩, (fl_sub1 (f := e_i64) (fun _ => rfl) h23 rfl), ⟨rfl, rfl, u8s_length⟩, rfl, ⟨u8s_dat, trivial⟩, (codec_PutInt_ret b3 x22 r24 h25), ok1 h26⟩
theorem audit_leaf_L7_1 (x_0 : Tapi_Charge) (k30 : Nat) (b4 : (List Int)) (b3 : (List UInt8)) (c21 : ¬ ((↑k30 : Int) < (4 : Int))) : Does Tryz.prog G0 2 (bodyAt Tryz.prog 29 [1, 1, 1, 1, 0, 1, 0, 0]) (audit_leaf_L7_H x_0 (k30, b4, b3)) (.exit 0) (S 55 [(1, .ptr 0 0), (3, .vec 2 b3.length 1)] [(bT (Tapi_Charge.enc x_0) 35), (bT (fl e_i64 b4) 3), (bV (u8s b3) 5)]) :=
  Does.of_viewM 2 400 [.op none .a, .br false] [0, 1, 2] (ps := [((decide ((↑k30 : Int) < (4 : Int))) = false)]) (by kernel_rfl) (by kernel_rfl) (ok1 (decide_eq_false c21))
def audit_leaf_L7_X (x_0 : Tapi_Charge) : ((List Int) × (List UInt8)) → AEx := fun o => (.exit 0)
def audit_leaf_L7_E (x_0 : Tapi_Charge) : ((List Int) × (List UInt8)) → St := fun o => S 55 [(1, .ptr 0 0), (3, .vec 2 o.2.length 1)] [(bT (Tapi_Charge.enc x_0) 35), (bT (fl e_i64 o.1) 3), (bV (u8s o.2) 5)]
theorem audit_leaf_L7_does (x_0 : Tapi_Charge) {s : (Nat × (List Int) × (List UInt8))} {r : ((List Int) × (List UInt8))} (h : lp (audit_leaf_L7_step x_0) s = some r) : Does Tryz.prog G0 2 (.loop (bodyAt Tryz.prog 29 [1, 1, 1, 1, 0, 1, 0, 0])) (audit_leaf_L7_H x_0 s) (audit_leaf_L7_X x_0 r) (audit_leaf_L7_E x_0 r) := by
  refine Does.lp (H := audit_leaf_L7_H x_0) (X := audit_leaf_L7_X x_0) (E := audit_leaf_L7_E x_0) (fun s s2 h => ?_) (fun s r h => ?_) h
  · obtain ⟨k30, b4, b3⟩ := s
    unfold audit_leaf_L7_step at h
    try dsimp only at h
    rcases ite_some h with ⟨c21, h⟩ | ⟨c21, h⟩
    · obtain ⟨x22, h23, h⟩ := bind_some h
      obtain ⟨r24, h25, h⟩ := bind_some h
      obtain ⟨h26, h⟩ := guard_some h
      simp only [Option.some.injEq, Sum.inl.injEq] at h
      subst h
      have hq := audit_leaf_L7_0 x_0 k30 b4 b3 c21 x22 h23 r24 h25 h26
      first | exact hq | exact Eq.mp (by simp only [audit_leaf_L7_H, List.length_set] <;> rfl) hq
    · simp at h
  · obtain ⟨k30, b4, b3⟩ := s
    unfold audit_leaf_L7_step at h
    try dsimp only at h
    rcases ite_some h with ⟨c21, h⟩ | ⟨c21, h⟩
    · obtain ⟨x22, h23, h⟩ := bind_some h
      obtain ⟨r24, h25, h⟩ := bind_some h
      obtain ⟨h26, h⟩ := guard_some h
      simp at h
    · simp only [Option.some.injEq, Sum.inr.injEq] at h
      subst h
      exact ⟨audit_leaf_L7_1 x_0 k30 b4 b3 c21, by intro q; cases q⟩
noncomputable def audit_leaf_L27_step (x_0 : Tapi_Charge) : (Nat × (List UInt8)) → Option ((Nat × (List UInt8)) ⊕ (List UInt8))
  | (k41, b7) =>
    if (↑k41 : Int) < (↑x_0.Lines.length : Int) then
      (x_0.Lines[k41]?).bind fun x37 =>
      (codec_PutText b7 x37.Text).bind fun r39 =>
      (codec_PutInt r39 x37.Cents).bind fun r41 =>
      if InR .i64 ((↑k41 : Int) + 1) then
        some (Sum.inl ((k41 + 1), r41))
      else none
    else
      some (Sum.inr b7)
def audit_leaf_L27_H (x_0 : Tapi_Charge) : (Nat × (List UInt8)) → St := fun (s : (Nat × (List UInt8))) => S 55 [(3, .vec 0 s.2.length 1), (39, .lst (fl Tapi_Line.enc x_0.Lines) x_0.Lines.length), (40, .int .i64 (↑x_0.Lines.length : Int)), (41, .int .i64 (↑s.1 : Int))] [(bV (u8s s.2) 5)]
theorem audit_leaf_L27_0 (x_0 : Tapi_Charge) (k41 : Nat) (b7 : (List UInt8)) (c36 : (↑k41 : Int) < (↑x_0.Lines.length : Int)) (x37 : Tapi_Line) (h38 : x_0.Lines[k41]? = some x37) (r39 : (List UInt8)) (h40 : codec_PutText b7 x37.Text = some r39) (r41 : (List UInt8)) (h42 : codec_PutInt r39 x37.Cents = some r41) (h43 : InR .i64 ((↑k41 : Int) + 1)) : Does Tryz.prog G0 0 (bodyAt Tryz.prog 29 [1, 1, 1, 1, 1, 0, 1, 0, 0]) (audit_leaf_L27_H x_0 (k41, b7)) .normal (S 55 [(3, .vec 0 r41.length 1), (39, .lst (fl Tapi_Line.enc x_0.Lines) x_0.Lines.length), (40, .int .i64 (↑x_0.Lines.length : Int)), (41, .int .i64 ((↑k41 : Int) + 1))] [(bV (u8s r41) 5)]) :=
  Does.of_viewM 0 400 ((.op none .a) :: (.br true) :: (.op none (.i k41)) :: (.op none (.v [.str x37.Text, .int .i64 x37.Cents])) :: (cs 5 ((.ret none [.lst (u8s b7) b7.length, .str x37.Text] (.vec 0 r39.length 1) [(bV (u8s r39) 5)]) :: (cs 2 [.ret none [.lst (u8s r39) r39.length, .int .i64 x37.Cents] (.vec 0 r41.length 1) [(bV (u8s r41) 5)], .op none .c, .op none .w, .op none .c])))) [3] (ps := [((decide ((↑k41 : Int) < (↑x_0.Lines.length : Int))) = true), ((↑k41 : Int) = ((k41 : Nat) : Int) ∧ k41 < x_0.Lines.length), ((fl Tapi_Line.enc x_0.Lines) ≠ []), (sub (fl Tapi_Line.enc x_0.Lines) (k41 * 2) 2 = [.str x37.Text, .int .i64 x37.Cents]), ((u8s b7) = (u8s b7) ∧ b7.length = b7.length ∧ List.length ((u8s b7) : List AV) = b7.length), ((.str x37.Text : AV) = .str x37.Text), (datBlks [(bV (u8s r39) 5)]), (Ret Tryz.prog G0 54 [.lst (u8s b7) b7.length, .str x37.Text] (.vec 0 r39.length 1) [(bV (u8s r39) 5)]), ((some (Ob.blk (bV (u8s b7) 5)) = some (Ob.blk (bV (u8s b7) 5))) ∧ True), ((u8s r39) = (u8s r39) ∧ r39.length = r39.length ∧ List.length ((u8s r39) : List AV) = r39.length), ((.int .i64 x37.Cents : AV) = .int .i64 x37.Cents), (datBlks [(bV (u8s r41) 5)]), (Ret Tryz.prog G0 55 [.lst (u8s r39) r39.length, .int .i64 x37.Cents] (.vec 0 r41.length 1) [(bV (u8s r41) 5)]), ((some (Ob.blk (bV (u8s r39) 5)) = some (Ob.blk (bV (u8s r39) 5))) ∧ True), (IntKind.min .i64 ≤ ((↑k41 : Int) + 1) ∧ ((↑k41 : Int) + 1) ≤ IntKind.max .i64)]) (by kernel_rfl) (by kernel_rfl) ⟨(decide_eq_true c36), ⟨rfl, get_lt h38⟩, (fl_ne (f := Tapi_Line.enc) (z := 1) (fun _ => rfl) h38), (fl_sub0 (f := Tapi_Line.enc) (z := 2) (j := k41) (fun _ => rfl) h38 rfl), ⟨rfl, rfl, u8s_length⟩, rfl, ⟨u8s_dat, trivial⟩, (codec_PutText_ret b7 x37.Text r39 h40), ⟨rfl, trivial⟩, ⟨rfl, rfl, u8s_length⟩, rfl, ⟨u8s_dat, trivial⟩, (codec_PutInt_ret r39 x37.Cents r41 h42), ⟨rfl, trivial⟩, ok1 h43⟩
theorem audit_leaf_L27_1 (x_0 : Tapi_Charge) (k41 : Nat) (b7 : (List UInt8)) (c36 : ¬ ((↑k41 : Int) < (↑x_0.Lines.length : Int))) : Does Tryz.prog G0 0 (bodyAt Tryz.prog 29 [1, 1, 1, 1, 1, 0, 1, 0, 0]) (audit_leaf_L27_H x_0 (k41, b7)) (.exit 2) (S 55 [(3, .vec 0 b7.length 1)] [(bV (u8s b7) 5)]) :=
  Does.of_viewM 0 400 [.op none .a, .br false] [0] (ps := [((decide ((↑k41 : Int) < (↑x_0.Lines.length : Int))) = false)]) (by kernel_rfl) (by kernel_rfl) (ok1 (decide_eq_false c36))
def audit_leaf_L27_X (x_0 : Tapi_Charge) : (List UInt8) → AEx := fun o => (.exit 2)
def audit_leaf_L27_E (x_0 : Tapi_Charge) : (List UInt8) → St := fun o => S 55 [(3, .vec 0 o.length 1)] [(bV (u8s o) 5)]
theorem audit_leaf_L27_does (x_0 : Tapi_Charge) {s : (Nat × (List UInt8))} {r : (List UInt8)} (h : lp (audit_leaf_L27_step x_0) s = some r) : Does Tryz.prog G0 0 (.loop (bodyAt Tryz.prog 29 [1, 1, 1, 1, 1, 0, 1, 0, 0])) (audit_leaf_L27_H x_0 s) (audit_leaf_L27_X x_0 r) (audit_leaf_L27_E x_0 r) := by
  refine Does.lp (H := audit_leaf_L27_H x_0) (X := audit_leaf_L27_X x_0) (E := audit_leaf_L27_E x_0) (fun s s2 h => ?_) (fun s r h => ?_) h
  · obtain ⟨k41, b7⟩ := s
    unfold audit_leaf_L27_step at h
    try dsimp only at h
    rcases ite_some h with ⟨c36, h⟩ | ⟨c36, h⟩
    · obtain ⟨x37, h38, h⟩ := bind_some h
      obtain ⟨r39, h40, h⟩ := bind_some h
      obtain ⟨r41, h42, h⟩ := bind_some h
      obtain ⟨h43, h⟩ := guard_some h
      simp only [Option.some.injEq, Sum.inl.injEq] at h
      subst h
      have hq := audit_leaf_L27_0 x_0 k41 b7 c36 x37 h38 r39 h40 r41 h42 h43
      first | exact hq | exact Eq.mp (by simp only [audit_leaf_L27_H, List.length_set] <;> rfl) hq
    · simp at h
  · obtain ⟨k41, b7⟩ := s
    unfold audit_leaf_L27_step at h
    try dsimp only at h
    rcases ite_some h with ⟨c36, h⟩ | ⟨c36, h⟩
    · obtain ⟨x37, h38, h⟩ := bind_some h
      obtain ⟨r39, h40, h⟩ := bind_some h
      obtain ⟨r41, h42, h⟩ := bind_some h
      obtain ⟨h43, h⟩ := guard_some h
      simp at h
    · simp only [Option.some.injEq, Sum.inr.injEq] at h
      subst h
      exact ⟨audit_leaf_L27_1 x_0 k41 b7 c36, by intro q; cases q⟩
noncomputable def audit_leaf (x_0 : Tapi_Charge) : Option Int :=
  (codec_PutText [] x_0.Key).bind fun r1 =>
  (codec_PutText r1 x_0.Vehicle).bind fun r3 =>
  (codec_PutText r3 x_0.System).bind fun r5 =>
  (lp (audit_leaf_L7_step x_0) ((0 : Nat), ([x_0.Class, x_0.Time, x_0.Cents, (↑x_0.Lines.length : Int)] : (List Int)), r5)).bind fun o7 =>
  (lp (audit_leaf_L27_step x_0) ((0 : Nat), o7.2)).bind fun o27 =>
  (digest_Hash o27).bind fun r44 =>
  some r44
theorem audit_leaf_0 (x_0 : Tapi_Charge) (r1 : (List UInt8)) (h2 : codec_PutText [] x_0.Key = some r1) (r3 : (List UInt8)) (h4 : codec_PutText r1 x_0.Vehicle = some r3) (r5 : (List UInt8)) (h6 : codec_PutText r3 x_0.System = some r5) (o7 : ((List Int) × (List UInt8))) (hl7 : lp (audit_leaf_L7_step x_0) ((0 : Nat), ([x_0.Class, x_0.Time, x_0.Cents, (↑x_0.Lines.length : Int)] : (List Int)), r5) = some o7) (o27 : (List UInt8)) (hl27 : lp (audit_leaf_L27_step x_0) ((0 : Nat), o7.2) = some o27) (r44 : Int) (h45 : digest_Hash o27 = some r44) : Ret Tryz.prog G0 29 [.agg (Tapi_Charge.enc x_0)] (.int .u64 r44) [] :=
  Ret.of_view 400 (cs 4 ((.ret none [.lst [] 0, .str x_0.Key] (.vec 0 r1.length 1) [(bV (u8s r1) 5)]) :: (cs 4 ((.ret none [.lst (u8s r1) r1.length, .str x_0.Vehicle] (.vec 0 r3.length 1) [(bV (u8s r3) 5)]) :: (cs 4 ((.ret none [.lst (u8s r3) r3.length, .str x_0.System] (.vec 0 r5.length 1) [(bV (u8s r5) 5)]) :: (cs 13 ((.fcut 2 (.exit 0) [(1, .ptr 0 0), (3, .vec 2 o7.2.length 1)] [(bT (Tapi_Charge.enc x_0) 35), (bT (fl e_i64 o7.1) 3), (bV (u8s o7.2) 5)] [0, 4, 3] [(1, .ptr 0 0), (3, .vec 2 r5.length 1), (28, .sl 1 0 (([x_0.Class, x_0.Time, x_0.Cents, (↑x_0.Lines.length : Int)] : (List Int)).length) (([x_0.Class, x_0.Time, x_0.Cents, (↑x_0.Lines.length : Int)] : (List Int)).length) true 1), (29, .int .i64 4), (30, .int .i64 (↑(0 : Nat) : Int))] [(bT (Tapi_Charge.enc x_0) 35), (bT (fl e_i64 ([x_0.Class, x_0.Time, x_0.Cents, (↑x_0.Lines.length : Int)] : (List Int))) 3), (bV (u8s r5) 5)]) :: (cs 4 [.fcut 0 (.exit 2) [(3, .vec 0 o27.length 1)] [(bV (u8s o27) 5)] [7] [(3, .vec 0 o7.2.length 1), (39, .lst (fl Tapi_Line.enc x_0.Lines) x_0.Lines.length), (40, .int .i64 (↑x_0.Lines.length : Int)), (41, .int .i64 (↑(0 : Nat) : Int))] [(bV (u8s o7.2) 5)], .op none .c, .ret none [.lst (u8s o27) o27.length] (.int .u64 r44) [], .op none .c]))))))))) [] (ps := [((.str x_0.Key : AV) = .str x_0.Key), (Ret Tryz.prog G0 54 [.lst [] 0, .str x_0.Key] (.vec 0 r1.length 1) [(bV (u8s r1) 5)]), ((u8s r1) = (u8s r1) ∧ r1.length = r1.length ∧ List.length ((u8s r1) : List AV) = r1.length), ((.str x_0.Vehicle : AV) = .str x_0.Vehicle), (datBlks [(bV (u8s r3) 5)]), (Ret Tryz.prog G0 54 [.lst (u8s r1) r1.length, .str x_0.Vehicle] (.vec 0 r3.length 1) [(bV (u8s r3) 5)]), ((u8s r3) = (u8s r3) ∧ r3.length = r3.length ∧ List.length ((u8s r3) : List AV) = r3.length), ((.str x_0.System : AV) = .str x_0.System), (datBlks [(bV (u8s r5) 5)]), (Ret Tryz.prog G0 54 [.lst (u8s r3) r3.length, .str x_0.System] (.vec 0 r5.length 1) [(bV (u8s r5) 5)]), ((.ptr 0 0 : AV) = .ptr 0 0), ((.vec 3 r5.length 1 : AV) = .vec 3 r5.length 1), ((.sl 4 0 4 4 true 1 : AV) = .sl 4 0 (([x_0.Class, x_0.Time, x_0.Cents, (↑x_0.Lines.length : Int)] : (List Int)).length) (([x_0.Class, x_0.Time, x_0.Cents, (↑x_0.Lines.length : Int)] : (List Int)).length) true 1), ((.int .i64 4 : AV) = .int .i64 4), ((.int .i64 0 : AV) = .int .i64 (↑(0 : Nat) : Int)), (((bT (Tapi_Charge.enc x_0) 35) : Blk) = renB [0, 4, 3] (bT (Tapi_Charge.enc x_0) 35)), (((bT [.int .i64 x_0.Class, .int .i64 x_0.Time, .int .i64 x_0.Cents, .int .i64 (↑x_0.Lines.length : Int)] 3) : Blk) = renB [0, 4, 3] (bT (fl e_i64 ([x_0.Class, x_0.Time, x_0.Cents, (↑x_0.Lines.length : Int)] : (List Int))) 3)), (((bV (u8s r5) 5) : Blk) = renB [0, 4, 3] (bV (u8s r5) 5)), (Does Tryz.prog G0 2 (.loop (bodyAt Tryz.prog 29 [1, 1, 1, 1, 0, 1, 0, 0])) (S 55 [(1, .ptr 0 0), (3, .vec 2 r5.length 1), (28, .sl 1 0 (([x_0.Class, x_0.Time, x_0.Cents, (↑x_0.Lines.length : Int)] : (List Int)).length) (([x_0.Class, x_0.Time, x_0.Cents, (↑x_0.Lines.length : Int)] : (List Int)).length) true 1), (29, .int .i64 4), (30, .int .i64 (↑(0 : Nat) : Int))] [(bT (Tapi_Charge.enc x_0) 35), (bT (fl e_i64 ([x_0.Class, x_0.Time, x_0.Cents, (↑x_0.Lines.length : Int)] : (List Int))) 3), (bV (u8s r5) 5)]) (.exit 0) (S 55 [(1, .ptr 0 0), (3, .vec 2 o7.2.length 1)] [(bT (Tapi_Charge.enc x_0) 35), (bT (fl e_i64 o7.1) 3), (bV (u8s o7.2) 5)])), ((.vec 7 o7.2.length 1 : AV) = .vec 7 o7.2.length 1), ((.lst (fl Tapi_Line.enc x_0.Lines) x_0.Lines.length : AV) = .lst (fl Tapi_Line.enc x_0.Lines) x_0.Lines.length), ((.int .i64 (↑x_0.Lines.length : Int) : AV) = .int .i64 (↑x_0.Lines.length : Int)), ((.int .i64 0 : AV) = .int .i64 (↑(0 : Nat) : Int)), (((bV (u8s o7.2) 5) : Blk) = renB [7] (bV (u8s o7.2) 5)), (Does Tryz.prog G0 0 (.loop (bodyAt Tryz.prog 29 [1, 1, 1, 1, 1, 0, 1, 0, 0])) (S 55 [(3, .vec 0 o7.2.length 1), (39, .lst (fl Tapi_Line.enc x_0.Lines) x_0.Lines.length), (40, .int .i64 (↑x_0.Lines.length : Int)), (41, .int .i64 (↑(0 : Nat) : Int))] [(bV (u8s o7.2) 5)]) (.exit 2) (S 55 [(3, .vec 0 o27.length 1)] [(bV (u8s o27) 5)])), ((u8s o27) = (u8s o27) ∧ o27.length = o27.length ∧ List.length ((u8s o27) : List AV) = o27.length), (datBlks []), (Ret Tryz.prog G0 56 [.lst (u8s o27) o27.length] (.int .u64 r44) [])]) (by kernel_rfl) (by kernel_rfl) ⟨rfl, (codec_PutText_ret [] x_0.Key r1 h2), ⟨rfl, rfl, u8s_length⟩, rfl, ⟨u8s_dat, trivial⟩, (codec_PutText_ret r1 x_0.Vehicle r3 h4), ⟨rfl, rfl, u8s_length⟩, rfl, ⟨u8s_dat, trivial⟩, (codec_PutText_ret r3 x_0.System r5 h6), rfl, (by first | rfl | simp only [List.length_replicate, List.length_set]), rfl, rfl, rfl, rfl, rfl, rfl, (audit_leaf_L7_does x_0 (s := ((0 : Nat), ([x_0.Class, x_0.Time, x_0.Cents, (↑x_0.Lines.length : Int)] : (List Int)), r5)) (r := o7) hl7), (by first | rfl | simp only [List.length_replicate, List.length_set]), rfl, rfl, rfl, rfl, (audit_leaf_L27_does x_0 (s := ((0 : Nat), o7.2)) (r := o27) hl27), ⟨rfl, rfl, u8s_length⟩, trivial, ok1 (digest_Hash_ret o27 r44 h45)⟩
theorem audit_leaf_ret (x_0 : Tapi_Charge) (r : Int) (h : audit_leaf x_0 = some r) : Ret Tryz.prog G0 29 [.agg (Tapi_Charge.enc x_0)] (.int .u64 r) [] := by
  unfold audit_leaf at h
  obtain ⟨r1, h2, h⟩ := bind_some h
  obtain ⟨r3, h4, h⟩ := bind_some h
  obtain ⟨r5, h6, h⟩ := bind_some h
  obtain ⟨o7, hl7, h⟩ := bind_some h
  obtain ⟨o27, hl27, h⟩ := bind_some h
  obtain ⟨r44, h45, h⟩ := bind_some h
  simp only [Option.some.injEq] at h
  subst h
  exact audit_leaf_0 x_0 r1 h2 r3 h4 r5 h6 o7 hl7 o27 hl27 r44 h45
noncomputable def audit_Leaves_L1_step (l_0 : (List Tapi_Charge)) : (Nat × (List Int)) → Option ((Nat × (List Int)) ⊕ (List Int))
  | (k8, b0) =>
    if (↑k8 : Int) < (↑l_0.length : Int) then
      (l_0[k8]?).bind fun x10 =>
      (audit_leaf x10).bind fun r12 =>
      if b0.length + 1 ≤ 4294967296 then
        if InR .i64 ((↑k8 : Int) + 1) then
          some (Sum.inl ((k8 + 1), (b0 ++ [r12])))
        else none
      else none
    else
      some (Sum.inr b0)
def audit_Leaves_L1_H (l_0 : (List Tapi_Charge)) : (Nat × (List Int)) → St := fun (s : (Nat × (List Int))) => S 19 [(3, .vec 0 s.2.length 1), (6, .lst (fl Tapi_Charge.enc l_0) l_0.length), (7, .int .i64 (↑l_0.length : Int)), (8, .int .i64 (↑s.1 : Int))] [(bV (fl e_u64 s.2) 41)]
theorem audit_Leaves_L1_0 (l_0 : (List Tapi_Charge)) (k8 : Nat) (b0 : (List Int)) (c9 : (↑k8 : Int) < (↑l_0.length : Int)) (x10 : Tapi_Charge) (h11 : l_0[k8]? = some x10) (r12 : Int) (h13 : audit_leaf x10 = some r12) (h14 : b0.length + 1 ≤ 4294967296) (h15 : InR .i64 ((↑k8 : Int) + 1)) : Does Tryz.prog G0 0 (bodyAt Tryz.prog 13 [1, 1, 0, 1, 0, 0]) (audit_Leaves_L1_H l_0 (k8, b0)) .normal (S 19 [(3, .vec 0 ((b0 ++ [r12]).length) 1), (6, .lst (fl Tapi_Charge.enc l_0) l_0.length), (7, .int .i64 (↑l_0.length : Int)), (8, .int .i64 ((↑k8 : Int) + 1))] [(bV (fl e_u64 (b0 ++ [r12])) 41)]) :=
  Does.of_viewM 0 400 ((.op none .a) :: (.br true) :: (.op none (.i k8)) :: (.op none (.v [.str x10.Key, .str x10.Vehicle, .str x10.System, .int .i64 x10.Class, .int .i64 x10.Time, .lst (fl Tapi_Line.enc x10.Lines) x10.Lines.length, .int .i64 x10.Cents])) :: (cs 4 [.ret none [.agg (Tapi_Charge.enc x10)] (.int .u64 r12) [], .op none .c, .op none (.ap 4), .tr (.eqc 3 (fl e_u64 (b0 ++ [r12]))), .tr (.eqt (.t 16) (.vec 3 ((b0 ++ [r12]).length) 1)), .op none .c, .op none .w, .op none .c])) [3] (ps := [((decide ((↑k8 : Int) < (↑l_0.length : Int))) = true), ((↑k8 : Int) = ((k8 : Nat) : Int) ∧ k8 < l_0.length), ((fl Tapi_Charge.enc l_0) ≠ []), (sub (fl Tapi_Charge.enc l_0) (k8 * 7) 7 = [.str x10.Key, .str x10.Vehicle, .str x10.System, .int .i64 x10.Class, .int .i64 x10.Time, .lst (fl Tapi_Line.enc x10.Lines) x10.Lines.length, .int .i64 x10.Cents]), ((.agg (Tapi_Charge.enc x10) : AV) = .agg (Tapi_Charge.enc x10)), (Ret Tryz.prog G0 29 [.agg (Tapi_Charge.enc x10)] (.int .u64 r12) []), (0 + 1 ≤ List.length ([.int .u64 r12] : List AV)), (List.length ((fl e_u64 b0) : List AV) = b0.length), (List.all ([.int .u64 r12] : List AV) AV.one = true), (b0.length + 1 ≤ 4294967296), ((fl e_u64 b0) ++ [.int .u64 r12] = (fl e_u64 (b0 ++ [r12]))), ((.vec 3 (b0.length + 1) 1 : AV) = .vec 3 ((b0 ++ [r12]).length) 1), (IntKind.min .i64 ≤ ((↑k8 : Int) + 1) ∧ ((↑k8 : Int) + 1) ≤ IntKind.max .i64)]) (by kernel_rfl) (by kernel_rfl) ⟨(decide_eq_true c9), ⟨rfl, get_lt h11⟩, (fl_ne (f := Tapi_Charge.enc) (z := 6) (fun _ => rfl) h11), (fl_sub0 (f := Tapi_Charge.enc) (z := 7) (j := k8) (fun _ => rfl) h11 rfl), rfl, (audit_leaf_ret x10 r12 h13), (Nat.le_of_ble_eq_true rfl), (fl_length1 (f := e_u64) (fun _ => rfl) _), rfl, h14, (fl_snoc rfl), (by simp <;> omega), ok1 h15⟩
theorem audit_Leaves_L1_1 (l_0 : (List Tapi_Charge)) (k8 : Nat) (b0 : (List Int)) (c9 : ¬ ((↑k8 : Int) < (↑l_0.length : Int))) : Does Tryz.prog G0 0 (bodyAt Tryz.prog 13 [1, 1, 0, 1, 0, 0]) (audit_Leaves_L1_H l_0 (k8, b0)) (.exit 0) (S 19 [(3, .vec 0 b0.length 1)] [(bV (fl e_u64 b0) 41)]) :=
  Does.of_viewM 0 400 [.op none .a, .br false] [0] (ps := [((decide ((↑k8 : Int) < (↑l_0.length : Int))) = false)]) (by kernel_rfl) (by kernel_rfl) (ok1 (decide_eq_false c9))
def audit_Leaves_L1_X (l_0 : (List Tapi_Charge)) : (List Int) → AEx := fun o => (.exit 0)
def audit_Leaves_L1_E (l_0 : (List Tapi_Charge)) : (List Int) → St := fun o => S 19 [(3, .vec 0 o.length 1)] [(bV (fl e_u64 o) 41)]
theorem audit_Leaves_L1_does (l_0 : (List Tapi_Charge)) {s : (Nat × (List Int))} {r : (List Int)} (h : lp (audit_Leaves_L1_step l_0) s = some r) : Does Tryz.prog G0 0 (.loop (bodyAt Tryz.prog 13 [1, 1, 0, 1, 0, 0])) (audit_Leaves_L1_H l_0 s) (audit_Leaves_L1_X l_0 r) (audit_Leaves_L1_E l_0 r) := by
  refine Does.lp (H := audit_Leaves_L1_H l_0) (X := audit_Leaves_L1_X l_0) (E := audit_Leaves_L1_E l_0) (fun s s2 h => ?_) (fun s r h => ?_) h
  · obtain ⟨k8, b0⟩ := s
    unfold audit_Leaves_L1_step at h
    try dsimp only at h
    rcases ite_some h with ⟨c9, h⟩ | ⟨c9, h⟩
    · obtain ⟨x10, h11, h⟩ := bind_some h
      obtain ⟨r12, h13, h⟩ := bind_some h
      obtain ⟨h14, h⟩ := guard_some h
      obtain ⟨h15, h⟩ := guard_some h
      simp only [Option.some.injEq, Sum.inl.injEq] at h
      subst h
      have hq := audit_Leaves_L1_0 l_0 k8 b0 c9 x10 h11 r12 h13 h14 h15
      first | exact hq | exact Eq.mp (by simp only [audit_Leaves_L1_H, List.length_set] <;> rfl) hq
    · simp at h
  · obtain ⟨k8, b0⟩ := s
    unfold audit_Leaves_L1_step at h
    try dsimp only at h
    rcases ite_some h with ⟨c9, h⟩ | ⟨c9, h⟩
    · obtain ⟨x10, h11, h⟩ := bind_some h
      obtain ⟨r12, h13, h⟩ := bind_some h
      obtain ⟨h14, h⟩ := guard_some h
      obtain ⟨h15, h⟩ := guard_some h
      simp at h
    · simp only [Option.some.injEq, Sum.inr.injEq] at h
      subst h
      exact ⟨audit_Leaves_L1_1 l_0 k8 b0 c9, by intro q; cases q⟩
noncomputable def audit_Leaves (l_0 : (List Tapi_Charge)) : Option (List Int) :=
  (lp (audit_Leaves_L1_step l_0) ((0 : Nat), ([] : (List Int)))).bind fun o1 =>
  some o1
theorem audit_Leaves_0 (l_0 : (List Tapi_Charge)) (o1 : (List Int)) (hl1 : lp (audit_Leaves_L1_step l_0) ((0 : Nat), ([] : (List Int))) = some o1) : Ret Tryz.prog G0 13 [.lst (fl Tapi_Charge.enc l_0) l_0.length] (.vec 0 o1.length 1) [(bV (fl e_u64 o1) 41)] :=
  Ret.of_view 400 (cs 5 ((.tr (.vec (.t 3) 1 41)) :: (.fcut 0 (.exit 0) [(3, .vec 0 o1.length 1)] [(bV (fl e_u64 o1) 41)] [0] [(3, .vec 0 (([] : (List Int)).length) 1), (6, .lst (fl Tapi_Charge.enc l_0) l_0.length), (7, .int .i64 (↑l_0.length : Int)), (8, .int .i64 (↑(0 : Nat) : Int))] [(bV (fl e_u64 ([] : (List Int))) 41)]) :: (cs 2 []))) [1] (ps := [((.vec 0 0 1 : AV) = .vec 0 (([] : (List Int)).length) 1), ((.lst (fl Tapi_Charge.enc l_0) l_0.length : AV) = .lst (fl Tapi_Charge.enc l_0) l_0.length), ((.int .i64 (↑l_0.length : Int) : AV) = .int .i64 (↑l_0.length : Int)), ((.int .i64 0 : AV) = .int .i64 (↑(0 : Nat) : Int)), (((bV [] 41) : Blk) = renB [0] (bV (fl e_u64 ([] : (List Int))) 41)), (Does Tryz.prog G0 0 (.loop (bodyAt Tryz.prog 13 [1, 1, 0, 1, 0, 0])) (S 19 [(3, .vec 0 (([] : (List Int)).length) 1), (6, .lst (fl Tapi_Charge.enc l_0) l_0.length), (7, .int .i64 (↑l_0.length : Int)), (8, .int .i64 (↑(0 : Nat) : Int))] [(bV (fl e_u64 ([] : (List Int))) 41)]) (.exit 0) (S 19 [(3, .vec 0 o1.length 1)] [(bV (fl e_u64 o1) 41)]))]) (by kernel_rfl) (by kernel_rfl) ⟨(by first | rfl | simp only [List.length_replicate, List.length_set]), rfl, rfl, rfl, rfl, ok1 (audit_Leaves_L1_does l_0 (s := ((0 : Nat), ([] : (List Int)))) (r := o1) hl1)⟩
theorem audit_Leaves_ret (l_0 : (List Tapi_Charge)) (r : (List Int)) (h : audit_Leaves l_0 = some r) : Ret Tryz.prog G0 13 [.lst (fl Tapi_Charge.enc l_0) l_0.length] (.vec 0 r.length 1) [(bV (fl e_u64 r) 41)] := by
  unfold audit_Leaves at h
  obtain ⟨o1, hl1, h⟩ := bind_some h
  simp only [Option.some.injEq] at h
  subst h
  exact audit_Leaves_0 l_0 o1 hl1
noncomputable def clock_Day (t_0 : Int) : Option Int :=
  if t_0 ≥ (0 : Int) then
    if t_0 < (68719476736 : Int) then
      if InR .i64 (Int.tdiv t_0 86400) then
        some (Int.tdiv t_0 86400)
      else none
    else
      some (-1)
  else
    some (-1)
def clock_Day_h1  : List CH := (cs 5 [.op none .a, .op none .c])
def clock_Day_h2  : List CH := ((.op (some true) .c) :: (.op none .a) :: (cs 3 []))
theorem clock_Day_0 (t_0 : Int) (c1 : t_0 ≥ (0 : Int)) (c2 : t_0 < (68719476736 : Int)) (h3 : InR .i64 (Int.tdiv t_0 86400)) : Ret Tryz.prog G0 37 [.int .i64 t_0] (.int .i64 (Int.tdiv t_0 86400)) [] :=
  Ret.of_view 400 ((clock_Day_h1) ++ ((clock_Day_h2) ++ [.br false, .op none .c, .op none .w, .op none .c])) [] (ps := ([((decide (t_0 ≥ (0 : Int))) = true)] ++ [((!(decide (t_0 < (68719476736 : Int)))) = false), (86400 ≠ (0 : Int)), (IntKind.min .i64 ≤ (Int.tdiv t_0 86400) ∧ (Int.tdiv t_0 86400) ≤ IntKind.max .i64)])) (by kernel_rfl) (by kernel_rfl) (allOk_append.2 ⟨(ok1 (decide_eq_true c1)), ⟨(not_f (decide_eq_true c2)), (by decide), ok1 h3⟩⟩)
theorem clock_Day_1 (t_0 : Int) (c1 : t_0 ≥ (0 : Int)) (c2 : ¬ (t_0 < (68719476736 : Int))) : Ret Tryz.prog G0 37 [.int .i64 t_0] (.int .i64 (-1)) [] :=
  Ret.of_view 400 ((clock_Day_h1) ++ ((clock_Day_h2) ++ [.br true, .op none .c])) [] (ps := ([((decide (t_0 ≥ (0 : Int))) = true)] ++ [((!(decide (t_0 < (68719476736 : Int)))) = true)])) (by kernel_rfl) (by kernel_rfl) (allOk_append.2 ⟨(ok1 (decide_eq_true c1)), (ok1 (not_t (decide_eq_false c2)))⟩)
theorem clock_Day_2 (t_0 : Int) (c1 : ¬ (t_0 ≥ (0 : Int))) : Ret Tryz.prog G0 37 [.int .i64 t_0] (.int .i64 (-1)) [] :=
  Ret.of_view 400 ((clock_Day_h1) ++ ((.op (some false) .c) :: (cs 4 [.br true, .op none .c]))) [] (ps := [((decide (t_0 ≥ (0 : Int))) = false), (true = true)]) (by kernel_rfl) (by kernel_rfl) ⟨(decide_eq_false c1), ok1 rfl⟩
theorem clock_Day_ret (t_0 : Int) (r : Int) (h : clock_Day t_0 = some r) : Ret Tryz.prog G0 37 [.int .i64 t_0] (.int .i64 r) [] := by
  unfold clock_Day at h
  rcases ite_some h with ⟨c1, h⟩ | ⟨c1, h⟩
  · rcases ite_some h with ⟨c2, h⟩ | ⟨c2, h⟩
    · obtain ⟨h3, h⟩ := guard_some h
      simp only [Option.some.injEq] at h
      subst h
      exact clock_Day_0 t_0 c1 c2 h3
    · simp only [Option.some.injEq] at h
      subst h
      exact clock_Day_1 t_0 c1 c2
  · simp only [Option.some.injEq] at h
    subst h
    exact clock_Day_2 t_0 c1
end Go.Proofs.YtpadimnchmghpaaGreatDoor.Av
