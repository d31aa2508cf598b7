import Derived.Test.YtalobodhbbkgdabDoorAvX
import Derived.Test.YtalobodhbbkgdabDoorProg
import Derived.Tactics
import Derived.Test.YtalobodhbbkgdabDoorTrK
import Derived.Test.YtalobodhbbkgdabDoorAvBd
set_option linter.unusedVariables false
set_option linter.unusedSimpArgs false
set_option maxHeartbeats 4000000
namespace Go.Proofs.YtalobodhbbkgdabDoor.Av
open Go Go.Proofs
structure Tapi_Fact where
  Kind : (List UInt8)
  Key : (List UInt8)
  Why : Int
def Tapi_Fact.enc (x : Tapi_Fact) : List AV := [.str x.Kind, .str x.Key, .int .i64 x.Why]
noncomputable def text_plain (c_0 : Int) : Option Bool :=
  if c_0 ≥ (33 : Int) then
    if c_0 ≤ (126 : Int) then
      some (!(c_0 == (37 : Int)))
    else
      some false
  else
    some false
theorem text_plain_0 (c_0 : Int) (c1 : c_0 ≥ (33 : Int)) (c2 : c_0 ≤ (126 : Int)) : Ret Tryd.prog GT 65 [.int .u8 c_0] (.bool (!(c_0 == (37 : Int)))) [] :=
  Ret.of_view 400 (cs 2 ((.op none .a) :: (.op none .c) :: (.op (some true) .c) :: (.op none .a) :: (cs 2 ((.op (some true) .c) :: (.op none .a) :: (cs 2 []))))) [] (ps := [((decide (c_0 ≥ (33 : Int))) = true), ((decide (c_0 ≤ (126 : Int))) = true)]) (by kernel_rfl) (by kernel_rfl) ⟨(decide_eq_true c1), ok1 (decide_eq_true c2)⟩
theorem text_plain_1 (c_0 : Int) (c1 : c_0 ≥ (33 : Int)) (c2 : ¬ (c_0 ≤ (126 : Int))) : Ret Tryd.prog GT 65 [.int .u8 c_0] (.bool false) [] :=
  Ret.of_view 400 (cs 2 ((.op none .a) :: (.op none .c) :: (.op (some true) .c) :: (.op none .a) :: (cs 2 ((.op (some false) .c) :: (cs 3 []))))) [] (ps := [((decide (c_0 ≥ (33 : Int))) = true), ((decide (c_0 ≤ (126 : Int))) = false)]) (by kernel_rfl) (by kernel_rfl) ⟨(decide_eq_true c1), ok1 (decide_eq_false c2)⟩
theorem text_plain_2 (c_0 : Int) (c1 : ¬ (c_0 ≥ (33 : Int))) : Ret Tryd.prog GT 65 [.int .u8 c_0] (.bool false) [] :=
  Ret.of_view 400 (cs 2 ((.op none .a) :: (.op none .c) :: (.op (some false) .c) :: (cs 7 []))) [] (ps := [((decide (c_0 ≥ (33 : Int))) = false)]) (by kernel_rfl) (by kernel_rfl) (ok1 (decide_eq_false c1))
theorem text_plain_ret (c_0 : Int) (r : Bool) (h : text_plain c_0 = some r) : Ret Tryd.prog GT 65 [.int .u8 c_0] (.bool r) [] := by
  unfold text_plain at h
  rcases ite_some h with ⟨c1, h⟩ | ⟨c1, h⟩
  · rcases ite_some h with ⟨c2, h⟩ | ⟨c2, h⟩
    · simp only [Option.some.injEq] at h
      subst h
      exact text_plain_0 c_0 c1 c2
    · simp only [Option.some.injEq] at h
      subst h
      exact text_plain_1 c_0 c1 c2
  · simp only [Option.some.injEq] at h
    subst h
    exact text_plain_2 c_0 c1
noncomputable def text_Escape_L2_step (s_0 : (List UInt8)) : (Nat × (List UInt8)) → Option ((Nat × (List UInt8)) ⊕ (List UInt8))
  | (k9, b0) =>
    if (↑k9 : Int) < (↑s_0.length : Int) then
      (s_0[k9]?).bind fun x21 =>
      (text_plain (x21.toNat : Int)).bind fun r23 =>
      if r23 = true then
        if b0.length + 1 ≤ 4294967296 then
          if InR .i64 ((↑k9 : Int) + 1) then
            some (Sum.inl ((k9 + 1), (b0 ++ [x21])))
          else none
        else none
      else
        if InR .u8 (Int.tdiv (x21.toNat : Int) 16) then
          if (0 : Int) ≤ (Int.tdiv (x21.toNat : Int) 16) then
            (([48, 49, 50, 51, 52, 53, 54, 55, 56, 57, 65, 66, 67, 68, 69, 70] : List UInt8)[(Int.toNat (Int.tdiv (x21.toNat : Int) 16))]?).bind fun x30 =>
            if (0 : Int) ≤ (Int.tmod (x21.toNat : Int) 16) then
              (([48, 49, 50, 51, 52, 53, 54, 55, 56, 57, 65, 66, 67, 68, 69, 70] : List UInt8)[(Int.toNat (Int.tmod (x21.toNat : Int) 16))]?).bind fun x33 =>
              if b0.length + 3 ≤ 4294967296 then
                if InR .i64 ((↑k9 : Int) + 1) then
                  some (Sum.inl ((k9 + 1), (b0 ++ [(37 : UInt8), x30, x33])))
                else none
              else none
            else none
          else none
        else none
    else
      some (Sum.inr b0)
def text_Escape_L2_H (s_0 : (List UInt8)) : (Nat × (List UInt8)) → St := fun (s : (Nat × (List UInt8))) => S 38 [(0, .str s_0), (3, .vec 0 s.2.length 1), (8, .int .i64 (↑s_0.length : Int)), (9, .int .i64 (↑s.1 : Int))] [{ c := (u8s s.2), e := 5, ext := true, fz := 0, pl := true, o := true }]
theorem text_Escape_L2_0 (s_0 : (List UInt8)) (k9 : Nat) (b0 : (List UInt8)) (c20 : (↑k9 : Int) < (↑s_0.length : Int)) (x21 : UInt8) (h22 : s_0[k9]? = some x21) (r23 : Bool) (h24 : text_plain (x21.toNat : Int) = some r23) (c25 : r23 = true) (h26 : b0.length + 1 ≤ 4294967296) (h27 : InR .i64 ((↑k9 : Int) + 1)) : Does Tryd.prog GT 0 (bodyAt Tryd.prog 44 [1, 1, 1, 0, 1, 0, 0]) (text_Escape_L2_H s_0 (k9, b0)) .normal (S 38 [(0, .str s_0), (3, .vec 0 ((b0 ++ [x21]).length) 1), (8, .int .i64 (↑s_0.length : Int)), (9, .int .i64 ((↑k9 : Int) + 1))] [{ c := (u8s (b0 ++ [x21])), e := 5, ext := true, fz := 0, pl := true, o := true }]) :=
  Does.of_viewM 0 400 ((.op none .a) :: (.br true) :: (cs 4 ((.op none (.i k9)) :: (.tr (.eqt (.t 14) (.int .u8 (x21.toNat : Int)))) :: (.ret none [.int .u8 (x21.toNat : Int)] (.bool r23) []) :: (.br true) :: (cs 3 [.op none (.i k9), .tr (.eqt (.t 19) (.int .u8 (x21.toNat : Int))), .op none .c, .op none (.ap 4), .tr (.eqc 2 (u8s (b0 ++ [x21]))), .tr (.eqt (.t 21) (.vec 2 ((b0 ++ [x21]).length) 1)), .op none .c, .op none .w, .op none .c])))) [2] (ps := [((decide ((↑k9 : Int) < (↑s_0.length : Int))) = true), ((↑k9 : Int) = ((k9 : Nat) : Int) ∧ k9 < s_0.length), ((.int .u8 ((List.getD s_0 k9 0).toNat : Int) : AV) = .int .u8 (x21.toNat : Int)), ((.int .u8 (x21.toNat : Int) : AV) = .int .u8 (x21.toNat : Int)), (Ret Tryd.prog GT 65 [.int .u8 (x21.toNat : Int)] (.bool r23) []), (r23 = true), ((↑k9 : Int) = ((k9 : Nat) : Int) ∧ k9 < s_0.length), ((.int .u8 ((List.getD s_0 k9 0).toNat : Int) : AV) = .int .u8 (x21.toNat : Int)), (0 + 1 ≤ List.length ([.int .u8 (x21.toNat : Int)] : List AV)), (List.length ((u8s b0) : List AV) = b0.length), (List.all ([.int .u8 (x21.toNat : Int)] : List AV) AV.one = true), (b0.length + 1 ≤ 4294967296), ((u8s b0) ++ [.int .u8 (x21.toNat : Int)] = (u8s (b0 ++ [x21]))), ((.vec 2 (b0.length + 1) 1 : AV) = .vec 2 ((b0 ++ [x21]).length) 1), (IntKind.min .i64 ≤ ((↑k9 : Int) + 1) ∧ ((↑k9 : Int) + 1) ≤ IntKind.max .i64)]) (by kernel_rfl) (by kernel_rfl) ⟨(decide_eq_true c20), ⟨rfl, get_lt h22⟩, (getD_u8 h22), rfl, (text_plain_ret (x21.toNat : Int) r23 h24), c25, ⟨rfl, get_lt h22⟩, (getD_u8 h22), (Nat.le_of_ble_eq_true rfl), u8s_length, rfl, h26, (u8s_snoc rfl), (by simp <;> omega), ok1 h27⟩
theorem text_Escape_L2_1 (s_0 : (List UInt8)) (k9 : Nat) (b0 : (List UInt8)) (c20 : (↑k9 : Int) < (↑s_0.length : Int)) (x21 : UInt8) (h22 : s_0[k9]? = some x21) (r23 : Bool) (h24 : text_plain (x21.toNat : Int) = some r23) (c25 : ¬ (r23 = true)) (h28 : InR .u8 (Int.tdiv (x21.toNat : Int) 16)) (h29 : (0 : Int) ≤ (Int.tdiv (x21.toNat : Int) 16)) (x30 : UInt8) (h31 : ([48, 49, 50, 51, 52, 53, 54, 55, 56, 57, 65, 66, 67, 68, 69, 70] : List UInt8)[(Int.toNat (Int.tdiv (x21.toNat : Int) 16))]? = some x30) (h32 : (0 : Int) ≤ (Int.tmod (x21.toNat : Int) 16)) (x33 : UInt8) (h34 : ([48, 49, 50, 51, 52, 53, 54, 55, 56, 57, 65, 66, 67, 68, 69, 70] : List UInt8)[(Int.toNat (Int.tmod (x21.toNat : Int) 16))]? = some x33) (h35 : b0.length + 3 ≤ 4294967296) (h36 : InR .i64 ((↑k9 : Int) + 1)) : Does Tryd.prog GT 0 (bodyAt Tryd.prog 44 [1, 1, 1, 0, 1, 0, 0]) (text_Escape_L2_H s_0 (k9, b0)) .normal (S 38 [(0, .str s_0), (3, .vec 0 ((b0 ++ [(37 : UInt8), x30, x33]).length) 1), (8, .int .i64 (↑s_0.length : Int)), (9, .int .i64 ((↑k9 : Int) + 1))] [{ c := (u8s (b0 ++ [(37 : UInt8), x30, x33])), e := 5, ext := true, fz := 0, pl := true, o := true }]) :=
  Does.of_viewM 0 400 ((.op none .a) :: (.br true) :: (cs 4 ((.op none (.i k9)) :: (.tr (.eqt (.t 14) (.int .u8 (x21.toNat : Int)))) :: (.ret none [.int .u8 (x21.toNat : Int)] (.bool r23) []) :: (.br false) :: (cs 3 ((.op none (.i k9)) :: (.trp (.eqt (.t 25) (.int .u8 (x21.toNat : Int)))) :: (.op none .w) :: (.op none (.i (Int.toNat (Int.tdiv (x21.toNat : Int) 16)))) :: (.trp (.eqt (.t 27) (.int .u8 (x30.toNat : Int)))) :: (cs 2 [.op none (.i k9), .trp (.eqt (.t 30) (.int .u8 (x21.toNat : Int))), .op none .a, .op none (.i (Int.toNat (Int.tmod (x21.toNat : Int) 16))), .trp (.eqt (.t 32) (.int .u8 (x33.toNat : Int))), .op none .c, .op none (.ap 4), .trp (.eqc 2 (u8s (b0 ++ [(37 : UInt8), x30, x33]))), .trp (.eqt (.t 34) (.vec 2 ((b0 ++ [(37 : UInt8), x30, x33]).length) 1)), .op none .c, .op none .w, .op none .c])))))) [2] (ps := [((decide ((↑k9 : Int) < (↑s_0.length : Int))) = true), ((↑k9 : Int) = ((k9 : Nat) : Int) ∧ k9 < s_0.length), ((.int .u8 ((List.getD s_0 k9 0).toNat : Int) : AV) = .int .u8 (x21.toNat : Int)), ((.int .u8 (x21.toNat : Int) : AV) = .int .u8 (x21.toNat : Int)), (Ret Tryd.prog GT 65 [.int .u8 (x21.toNat : Int)] (.bool r23) []), (r23 = false), ((↑k9 : Int) = ((k9 : Nat) : Int) ∧ k9 < s_0.length), ((.int .u8 ((List.getD s_0 k9 0).toNat : Int) : AV) = .int .u8 (x21.toNat : Int)), (16 ≠ (0 : Int)), (IntKind.min .u8 ≤ (Int.tdiv (x21.toNat : Int) 16) ∧ (Int.tdiv (x21.toNat : Int) 16) ≤ IntKind.max .u8), ((Int.tdiv (x21.toNat : Int) 16) = (((Int.toNat (Int.tdiv (x21.toNat : Int) 16)) : Nat) : Int) ∧ (Int.toNat (Int.tdiv (x21.toNat : Int) 16)) < ([48, 49, 50, 51, 52, 53, 54, 55, 56, 57, 65, 66, 67, 68, 69, 70] : List UInt8).length), ((.int .u8 ((List.getD ([48, 49, 50, 51, 52, 53, 54, 55, 56, 57, 65, 66, 67, 68, 69, 70] : List UInt8) (Int.toNat (Int.tdiv (x21.toNat : Int) 16)) 0).toNat : Int) : AV) = .int .u8 (x30.toNat : Int)), ((↑k9 : Int) = ((k9 : Nat) : Int) ∧ k9 < s_0.length), ((.int .u8 ((List.getD s_0 k9 0).toNat : Int) : AV) = .int .u8 (x21.toNat : Int)), (16 ≠ (0 : Int)), ((Int.tmod (x21.toNat : Int) 16) = (((Int.toNat (Int.tmod (x21.toNat : Int) 16)) : Nat) : Int) ∧ (Int.toNat (Int.tmod (x21.toNat : Int) 16)) < ([48, 49, 50, 51, 52, 53, 54, 55, 56, 57, 65, 66, 67, 68, 69, 70] : List UInt8).length), ((.int .u8 ((List.getD ([48, 49, 50, 51, 52, 53, 54, 55, 56, 57, 65, 66, 67, 68, 69, 70] : List UInt8) (Int.toNat (Int.tmod (x21.toNat : Int) 16)) 0).toNat : Int) : AV) = .int .u8 (x33.toNat : Int)), (0 + 3 ≤ List.length ([.int .u8 37, .int .u8 (x30.toNat : Int), .int .u8 (x33.toNat : Int)] : List AV)), (List.length ((u8s b0) : List AV) = b0.length), (List.all ([.int .u8 37, .int .u8 (x30.toNat : Int), .int .u8 (x33.toNat : Int)] : List AV) AV.one = true), (b0.length + 3 ≤ 4294967296), ((u8s b0) ++ [.int .u8 37, .int .u8 (x30.toNat : Int), .int .u8 (x33.toNat : Int)] = (u8s (b0 ++ [(37 : UInt8), x30, x33]))), ((.vec 2 (b0.length + 3) 1 : AV) = .vec 2 ((b0 ++ [(37 : UInt8), x30, x33]).length) 1), ((some (Ob.blk { c := [.int .u8 37, .int .u8 (x30.toNat : Int), .int .u8 (x33.toNat : Int)], e := 5, ext := false, fz := 0, pl := true, o := false }) = some (Ob.blk { c := [.int .u8 37, .int .u8 (x30.toNat : Int), .int .u8 (x33.toNat : Int)], e := 5, ext := false, fz := 0, pl := true, o := false })) ∧ True), (IntKind.min .i64 ≤ ((↑k9 : Int) + 1) ∧ ((↑k9 : Int) + 1) ≤ IntKind.max .i64)]) (by kernel_rfl) (by kernel_rfl) ⟨(decide_eq_true c20), ⟨rfl, get_lt h22⟩, (getD_u8 h22), rfl, (text_plain_ret (x21.toNat : Int) r23 h24), (eq_false_of_ne_true c25), ⟨rfl, get_lt h22⟩, (getD_u8 h22), (by decide), h28, ⟨(Int.toNat_of_nonneg h29).symm, get_lt h31⟩, (getD_u8 h31), ⟨rfl, get_lt h22⟩, (getD_u8 h22), (by decide), ⟨(Int.toNat_of_nonneg h32).symm, get_lt h34⟩, (getD_u8 h34), (Nat.le_of_ble_eq_true rfl), u8s_length, rfl, h35, (u8s_appc rfl), (by simp <;> omega), ⟨rfl, trivial⟩, ok1 h36⟩
theorem text_Escape_L2_2 (s_0 : (List UInt8)) (k9 : Nat) (b0 : (List UInt8)) (c20 : ¬ ((↑k9 : Int) < (↑s_0.length : Int))) : Does Tryd.prog GT 0 (bodyAt Tryd.prog 44 [1, 1, 1, 0, 1, 0, 0]) (text_Escape_L2_H s_0 (k9, b0)) (.exit 0) (S 38 [(3, .vec 0 b0.length 1)] [{ c := (u8s b0), e := 5, ext := true, fz := 0, pl := true, o := true }]) :=
  Does.of_viewM 0 400 [.op none .a, .br false] [0] (ps := [((decide ((↑k9 : Int) < (↑s_0.length : Int))) = false)]) (by kernel_rfl) (by kernel_rfl) (ok1 (decide_eq_false c20))
def text_Escape_L2_X (s_0 : (List UInt8)) : (List UInt8) → AEx := fun o => (.exit 0)
def text_Escape_L2_E (s_0 : (List UInt8)) : (List UInt8) → St := fun o => S 38 [(3, .vec 0 o.length 1)] [{ c := (u8s o), e := 5, ext := true, fz := 0, pl := true, o := true }]
theorem text_Escape_L2_does (s_0 : (List UInt8)) {s : (Nat × (List UInt8))} {r : (List UInt8)} (h : lp (text_Escape_L2_step s_0) s = some r) : Does Tryd.prog GT 0 (.loop (bodyAt Tryd.prog 44 [1, 1, 1, 0, 1, 0, 0])) (text_Escape_L2_H s_0 s) (text_Escape_L2_X s_0 r) (text_Escape_L2_E s_0 r) := by
  refine Does.lp (H := text_Escape_L2_H s_0) (X := text_Escape_L2_X s_0) (E := text_Escape_L2_E s_0) (fun s s2 h => ?_) (fun s r h => ?_) h
  · obtain ⟨k9, b0⟩ := s
    unfold text_Escape_L2_step at h
    try dsimp only at h
    rcases ite_some h with ⟨c20, h⟩ | ⟨c20, h⟩
    · obtain ⟨x21, h22, h⟩ := bind_some h
      obtain ⟨r23, h24, h⟩ := bind_some h
      rcases ite_some h with ⟨c25, h⟩ | ⟨c25, h⟩
      · obtain ⟨h26, h⟩ := guard_some h
        obtain ⟨h27, h⟩ := guard_some h
        simp only [Option.some.injEq, Sum.inl.injEq] at h
        subst h
        have hq := text_Escape_L2_0 s_0 k9 b0 c20 x21 h22 r23 h24 c25 h26 h27
        first | exact hq | exact Eq.mp (by simp only [text_Escape_L2_H, List.length_set] <;> rfl) hq
      · obtain ⟨h28, h⟩ := guard_some h
        obtain ⟨h29, h⟩ := guard_some h
        obtain ⟨x30, h31, h⟩ := bind_some h
        obtain ⟨h32, h⟩ := guard_some h
        obtain ⟨x33, h34, h⟩ := bind_some h
        obtain ⟨h35, h⟩ := guard_some h
        obtain ⟨h36, h⟩ := guard_some h
        simp only [Option.some.injEq, Sum.inl.injEq] at h
        subst h
        have hq := text_Escape_L2_1 s_0 k9 b0 c20 x21 h22 r23 h24 c25 h28 h29 x30 h31 h32 x33 h34 h35 h36
        first | exact hq | exact Eq.mp (by simp only [text_Escape_L2_H, List.length_set] <;> rfl) hq
    · simp at h
  · obtain ⟨k9, b0⟩ := s
    unfold text_Escape_L2_step at h
    try dsimp only at h
    rcases ite_some h with ⟨c20, h⟩ | ⟨c20, h⟩
    · obtain ⟨x21, h22, h⟩ := bind_some h
      obtain ⟨r23, h24, h⟩ := bind_some h
      rcases ite_some h with ⟨c25, h⟩ | ⟨c25, h⟩
      · obtain ⟨h26, h⟩ := guard_some h
        obtain ⟨h27, h⟩ := guard_some h
        simp at h
      · obtain ⟨h28, h⟩ := guard_some h
        obtain ⟨h29, h⟩ := guard_some h
        obtain ⟨x30, h31, h⟩ := bind_some h
        obtain ⟨h32, h⟩ := guard_some h
        obtain ⟨x33, h34, h⟩ := bind_some h
        obtain ⟨h35, h⟩ := guard_some h
        obtain ⟨h36, h⟩ := guard_some h
        simp at h
    · simp only [Option.some.injEq, Sum.inr.injEq] at h
      subst h
      exact ⟨text_Escape_L2_2 s_0 k9 b0 c20, by intro q; cases q⟩
noncomputable def text_Escape (s_0 : (List UInt8)) : Option (List UInt8) :=
  if s_0 = [] then
    some ([37] : List UInt8)
  else
    (lp (text_Escape_L2_step s_0) ((0 : Nat), ([] : (List UInt8)))).bind fun o2 =>
    some o2
theorem text_Escape_0 (s_0 : (List UInt8)) (c1 : s_0 = []) : Ret Tryd.prog GT 44 [.str s_0] (.str [37]) [] :=
  Ret.of_view 400 (cs 2 [.op none .a, .br true, .op none .c]) [] (ps := [((s_0 == []) = true)]) (by kernel_rfl) (by kernel_rfl) (ok1 (beq_t c1))
theorem text_Escape_1 (s_0 : (List UInt8)) (c1 : ¬ (s_0 = [])) (o2 : (List UInt8)) (hl2 : lp (text_Escape_L2_step s_0) ((0 : Nat), ([] : (List UInt8))) = some o2) : Ret Tryd.prog GT 44 [.str s_0] (.str o2) [] :=
  Ret.of_view 400 (cs 2 ((.op none .a) :: (.br false) :: (cs 4 [.tr (.vec (.t 3) 1 5), .fcut 0 (.exit 0) [(3, .vec 0 o2.length 1)] [{ c := (u8s o2), e := 5, ext := true, fz := 0, pl := true, o := true }] [0] [(0, .str s_0), (3, .vec 0 (([] : (List UInt8)).length) 1), (8, .int .i64 (↑s_0.length : Int)), (9, .int .i64 (↑(0 : Nat) : Int))] [{ c := (u8s ([] : (List UInt8))), e := 5, ext := true, fz := 0, pl := true, o := true }], .op none .c, .op none (.by o2), .op none .c]))) [] (ps := [((s_0 == []) = false), ((.str s_0 : AV) = .str s_0), ((.vec 0 0 1 : AV) = .vec 0 (([] : (List UInt8)).length) 1), ((.int .i64 (↑s_0.length : Int) : AV) = .int .i64 (↑s_0.length : Int)), ((.int .i64 0 : AV) = .int .i64 (↑(0 : Nat) : Int)), (({ c := [], e := 5, ext := true, fz := 0, pl := true, o := true } : Blk) = renB [0] { c := (u8s ([] : (List UInt8))), e := 5, ext := true, fz := 0, pl := true, o := true }), (Does Tryd.prog GT 0 (.loop (bodyAt Tryd.prog 44 [1, 1, 1, 0, 1, 0, 0])) (S 38 [(0, .str s_0), (3, .vec 0 (([] : (List UInt8)).length) 1), (8, .int .i64 (↑s_0.length : Int)), (9, .int .i64 (↑(0 : Nat) : Int))] [{ c := (u8s ([] : (List UInt8))), e := 5, ext := true, fz := 0, pl := true, o := true }]) (.exit 0) (S 38 [(3, .vec 0 o2.length 1)] [{ c := (u8s o2), e := 5, ext := true, fz := 0, pl := true, o := true }])), (List.length ((u8s o2) : List AV) = o2.length), ((u8s o2) = u8s o2)]) (by kernel_rfl) (by kernel_rfl) ⟨(beq_f c1), rfl, (by first | rfl | simp only [List.length_replicate, List.length_set]), rfl, rfl, rfl, (text_Escape_L2_does s_0 hl2), u8s_length, ok1 rfl⟩
theorem text_Escape_ret (s_0 : (List UInt8)) (r : (List UInt8)) (h : text_Escape s_0 = some r) : Ret Tryd.prog GT 44 [.str s_0] (.str r) [] := by
  unfold text_Escape at h
  rcases ite_some h with ⟨c1, h⟩ | ⟨c1, h⟩
  · simp only [Option.some.injEq] at h
    subst h
    exact text_Escape_0 s_0 c1
  · obtain ⟨o2, hl2, h⟩ := bind_some h
    simp only [Option.some.injEq] at h
    subst h
    exact text_Escape_1 s_0 c1 o2 hl2
noncomputable def trace_Why (why_0 : Int) : Option (List UInt8) :=
  if why_0 < (0 : Int) then
    some ([] : List UInt8)
  else
    if why_0 ≥ (19 : Int) then
      some ([] : List UInt8)
    else
      if (0 : Int) ≤ why_0 then
        if (Int.toNat why_0) < 19 then
          (([([] : List UInt8), ([117, 110, 107, 110, 111, 119, 110, 32, 100, 101, 118, 105, 99, 101] : List UInt8), ([105, 110, 118, 97, 108, 105, 100, 32, 116, 105, 109, 101] : List UInt8), ([109, 97, 108, 102, 111, 114, 109, 101, 100, 32, 114, 101, 97, 100, 105, 110, 103] : List UInt8), ([99, 111, 110, 102, 108, 105, 99, 116, 105, 110, 103, 32, 114, 101, 112, 111, 114, 116, 115] : List UInt8), ([111, 117, 116, 32, 111, 102, 32, 115, 101, 114, 118, 105, 99, 101] : List UInt8), ([117, 110, 97, 115, 115, 105, 103, 110, 101, 100, 32, 97, 120, 108, 101, 115] : List UInt8), ([108, 111, 119, 32, 99, 111, 110, 102, 105, 100, 101, 110, 99, 101] : List UInt8), ([116, 111, 111, 32, 109, 97, 110, 121, 32, 100, 101, 116, 101, 99, 116, 105, 111, 110, 115] : List UInt8), ([101, 108, 115, 101, 119, 104, 101, 114, 101, 32, 97, 116, 32, 116, 104, 97, 116, 32, 116, 105, 109, 101] : List UInt8), ([110, 111, 32, 101, 110, 116, 114, 121] : List UInt8), ([110, 111, 32, 101, 120, 105, 116] : List UInt8), ([99, 104, 101, 99, 107, 32, 112, 111, 105, 110, 116, 115, 32, 97, 108, 111, 110, 101] : List UInt8), ([110, 111, 32, 114, 97, 116, 101] : List UInt8), ([119, 97, 105, 118, 101, 100, 32, 102, 111, 114, 32, 97, 110, 32, 111, 117, 116, 97, 103, 101] : List UInt8), ([101, 120, 101, 109, 112, 116] : List UInt8), ([99, 97, 112, 112, 101, 100] : List UInt8), ([110, 111, 32, 97, 99, 99, 111, 117, 110, 116] : List UInt8), ([97, 108, 114, 101, 97, 100, 121, 32, 112, 97, 105, 100] : List UInt8)] : List (List UInt8))[(Int.toNat why_0)]?).bind fun x5 =>
          some x5
        else none
      else none
theorem trace_Why_0 (why_0 : Int) (c1 : why_0 < (0 : Int)) : Ret Tryd.prog GT 16 [.int .i64 why_0] (.str []) [] :=
  Ret.of_view 400 (cs 4 ((.op none .a) :: (.op none .c) :: (.op (some true) .c) :: (cs 4 [.br true, .op none .c]))) [] (ps := [((decide (why_0 < (0 : Int))) = true), (true = true)]) (by kernel_rfl) (by kernel_rfl) ⟨(decide_eq_true c1), ok1 rfl⟩
theorem trace_Why_1 (why_0 : Int) (c1 : ¬ (why_0 < (0 : Int))) (c2 : why_0 ≥ (19 : Int)) : Ret Tryd.prog GT 16 [.int .i64 why_0] (.str []) [] :=
  Ret.of_view 400 (cs 4 ((.op none .a) :: (.op none .c) :: (.op (some false) .c) :: (cs 2 [.op none .a, .op none .c, .br true, .op none .c]))) [] (ps := [((decide (why_0 < (0 : Int))) = false), ((decide (why_0 ≥ (19 : Int))) = true)]) (by kernel_rfl) (by kernel_rfl) ⟨(decide_eq_false c1), ok1 (decide_eq_true c2)⟩
theorem trace_Why_2 (why_0 : Int) (c1 : ¬ (why_0 < (0 : Int))) (c2 : ¬ (why_0 ≥ (19 : Int))) (h3 : (0 : Int) ≤ why_0) (h4 : (Int.toNat why_0) < 19) (x5 : (List UInt8)) (h6 : ([([] : List UInt8), ([117, 110, 107, 110, 111, 119, 110, 32, 100, 101, 118, 105, 99, 101] : List UInt8), ([105, 110, 118, 97, 108, 105, 100, 32, 116, 105, 109, 101] : List UInt8), ([109, 97, 108, 102, 111, 114, 109, 101, 100, 32, 114, 101, 97, 100, 105, 110, 103] : List UInt8), ([99, 111, 110, 102, 108, 105, 99, 116, 105, 110, 103, 32, 114, 101, 112, 111, 114, 116, 115] : List UInt8), ([111, 117, 116, 32, 111, 102, 32, 115, 101, 114, 118, 105, 99, 101] : List UInt8), ([117, 110, 97, 115, 115, 105, 103, 110, 101, 100, 32, 97, 120, 108, 101, 115] : List UInt8), ([108, 111, 119, 32, 99, 111, 110, 102, 105, 100, 101, 110, 99, 101] : List UInt8), ([116, 111, 111, 32, 109, 97, 110, 121, 32, 100, 101, 116, 101, 99, 116, 105, 111, 110, 115] : List UInt8), ([101, 108, 115, 101, 119, 104, 101, 114, 101, 32, 97, 116, 32, 116, 104, 97, 116, 32, 116, 105, 109, 101] : List UInt8), ([110, 111, 32, 101, 110, 116, 114, 121] : List UInt8), ([110, 111, 32, 101, 120, 105, 116] : List UInt8), ([99, 104, 101, 99, 107, 32, 112, 111, 105, 110, 116, 115, 32, 97, 108, 111, 110, 101] : List UInt8), ([110, 111, 32, 114, 97, 116, 101] : List UInt8), ([119, 97, 105, 118, 101, 100, 32, 102, 111, 114, 32, 97, 110, 32, 111, 117, 116, 97, 103, 101] : List UInt8), ([101, 120, 101, 109, 112, 116] : List UInt8), ([99, 97, 112, 112, 101, 100] : List UInt8), ([110, 111, 32, 97, 99, 99, 111, 117, 110, 116] : List UInt8), ([97, 108, 114, 101, 97, 100, 121, 32, 112, 97, 105, 100] : List UInt8)] : List (List UInt8))[(Int.toNat why_0)]? = some x5) : Ret Tryd.prog GT 16 [.int .i64 why_0] (.str x5) [] :=
  Ret.of_view 400 (cs 4 ((.op none .a) :: (.op none .c) :: (.op (some false) .c) :: (cs 2 ((.op none .a) :: (.op none .c) :: (.br false) :: (cs 2 [.tr (.eqc 0 (fl e_str ([([] : List UInt8), ([117, 110, 107, 110, 111, 119, 110, 32, 100, 101, 118, 105, 99, 101] : List UInt8), ([105, 110, 118, 97, 108, 105, 100, 32, 116, 105, 109, 101] : List UInt8), ([109, 97, 108, 102, 111, 114, 109, 101, 100, 32, 114, 101, 97, 100, 105, 110, 103] : List UInt8), ([99, 111, 110, 102, 108, 105, 99, 116, 105, 110, 103, 32, 114, 101, 112, 111, 114, 116, 115] : List UInt8), ([111, 117, 116, 32, 111, 102, 32, 115, 101, 114, 118, 105, 99, 101] : List UInt8), ([117, 110, 97, 115, 115, 105, 103, 110, 101, 100, 32, 97, 120, 108, 101, 115] : List UInt8), ([108, 111, 119, 32, 99, 111, 110, 102, 105, 100, 101, 110, 99, 101] : List UInt8), ([116, 111, 111, 32, 109, 97, 110, 121, 32, 100, 101, 116, 101, 99, 116, 105, 111, 110, 115] : List UInt8), ([101, 108, 115, 101, 119, 104, 101, 114, 101, 32, 97, 116, 32, 116, 104, 97, 116, 32, 116, 105, 109, 101] : List UInt8), ([110, 111, 32, 101, 110, 116, 114, 121] : List UInt8), ([110, 111, 32, 101, 120, 105, 116] : List UInt8), ([99, 104, 101, 99, 107, 32, 112, 111, 105, 110, 116, 115, 32, 97, 108, 111, 110, 101] : List UInt8), ([110, 111, 32, 114, 97, 116, 101] : List UInt8), ([119, 97, 105, 118, 101, 100, 32, 102, 111, 114, 32, 97, 110, 32, 111, 117, 116, 97, 103, 101] : List UInt8), ([101, 120, 101, 109, 112, 116] : List UInt8), ([99, 97, 112, 112, 101, 100] : List UInt8), ([110, 111, 32, 97, 99, 99, 111, 117, 110, 116] : List UInt8), ([97, 108, 114, 101, 97, 100, 121, 32, 112, 97, 105, 100] : List UInt8)] : List (List UInt8)))), .op none (.i (Int.toNat why_0)), .op none (.v [.str x5]), .op none .c]))))) [] (ps := [((decide (why_0 < (0 : Int))) = false), ((decide (why_0 ≥ (19 : Int))) = false), ([.str [], .str [117, 110, 107, 110, 111, 119, 110, 32, 100, 101, 118, 105, 99, 101], .str [105, 110, 118, 97, 108, 105, 100, 32, 116, 105, 109, 101], .str [109, 97, 108, 102, 111, 114, 109, 101, 100, 32, 114, 101, 97, 100, 105, 110, 103], .str [99, 111, 110, 102, 108, 105, 99, 116, 105, 110, 103, 32, 114, 101, 112, 111, 114, 116, 115], .str [111, 117, 116, 32, 111, 102, 32, 115, 101, 114, 118, 105, 99, 101], .str [117, 110, 97, 115, 115, 105, 103, 110, 101, 100, 32, 97, 120, 108, 101, 115], .str [108, 111, 119, 32, 99, 111, 110, 102, 105, 100, 101, 110, 99, 101], .str [116, 111, 111, 32, 109, 97, 110, 121, 32, 100, 101, 116, 101, 99, 116, 105, 111, 110, 115], .str [101, 108, 115, 101, 119, 104, 101, 114, 101, 32, 97, 116, 32, 116, 104, 97, 116, 32, 116, 105, 109, 101], .str [110, 111, 32, 101, 110, 116, 114, 121], .str [110, 111, 32, 101, 120, 105, 116], .str [99, 104, 101, 99, 107, 32, 112, 111, 105, 110, 116, 115, 32, 97, 108, 111, 110, 101], .str [110, 111, 32, 114, 97, 116, 101], .str [119, 97, 105, 118, 101, 100, 32, 102, 111, 114, 32, 97, 110, 32, 111, 117, 116, 97, 103, 101], .str [101, 120, 101, 109, 112, 116], .str [99, 97, 112, 112, 101, 100], .str [110, 111, 32, 97, 99, 99, 111, 117, 110, 116], .str [97, 108, 114, 101, 97, 100, 121, 32, 112, 97, 105, 100]] = (fl e_str ([([] : List UInt8), ([117, 110, 107, 110, 111, 119, 110, 32, 100, 101, 118, 105, 99, 101] : List UInt8), ([105, 110, 118, 97, 108, 105, 100, 32, 116, 105, 109, 101] : List UInt8), ([109, 97, 108, 102, 111, 114, 109, 101, 100, 32, 114, 101, 97, 100, 105, 110, 103] : List UInt8), ([99, 111, 110, 102, 108, 105, 99, 116, 105, 110, 103, 32, 114, 101, 112, 111, 114, 116, 115] : List UInt8), ([111, 117, 116, 32, 111, 102, 32, 115, 101, 114, 118, 105, 99, 101] : List UInt8), ([117, 110, 97, 115, 115, 105, 103, 110, 101, 100, 32, 97, 120, 108, 101, 115] : List UInt8), ([108, 111, 119, 32, 99, 111, 110, 102, 105, 100, 101, 110, 99, 101] : List UInt8), ([116, 111, 111, 32, 109, 97, 110, 121, 32, 100, 101, 116, 101, 99, 116, 105, 111, 110, 115] : List UInt8), ([101, 108, 115, 101, 119, 104, 101, 114, 101, 32, 97, 116, 32, 116, 104, 97, 116, 32, 116, 105, 109, 101] : List UInt8), ([110, 111, 32, 101, 110, 116, 114, 121] : List UInt8), ([110, 111, 32, 101, 120, 105, 116] : List UInt8), ([99, 104, 101, 99, 107, 32, 112, 111, 105, 110, 116, 115, 32, 97, 108, 111, 110, 101] : List UInt8), ([110, 111, 32, 114, 97, 116, 101] : List UInt8), ([119, 97, 105, 118, 101, 100, 32, 102, 111, 114, 32, 97, 110, 32, 111, 117, 116, 97, 103, 101] : List UInt8), ([101, 120, 101, 109, 112, 116] : List UInt8), ([99, 97, 112, 112, 101, 100] : List UInt8), ([110, 111, 32, 97, 99, 99, 111, 117, 110, 116] : List UInt8), ([97, 108, 114, 101, 97, 100, 121, 32, 112, 97, 105, 100] : List UInt8)] : List (List UInt8)))), (why_0 = (((Int.toNat why_0) : Nat) : Int) ∧ (Int.toNat why_0) < 19), (sub (fl e_str ([([] : List UInt8), ([117, 110, 107, 110, 111, 119, 110, 32, 100, 101, 118, 105, 99, 101] : List UInt8), ([105, 110, 118, 97, 108, 105, 100, 32, 116, 105, 109, 101] : List UInt8), ([109, 97, 108, 102, 111, 114, 109, 101, 100, 32, 114, 101, 97, 100, 105, 110, 103] : List UInt8), ([99, 111, 110, 102, 108, 105, 99, 116, 105, 110, 103, 32, 114, 101, 112, 111, 114, 116, 115] : List UInt8), ([111, 117, 116, 32, 111, 102, 32, 115, 101, 114, 118, 105, 99, 101] : List UInt8), ([117, 110, 97, 115, 115, 105, 103, 110, 101, 100, 32, 97, 120, 108, 101, 115] : List UInt8), ([108, 111, 119, 32, 99, 111, 110, 102, 105, 100, 101, 110, 99, 101] : List UInt8), ([116, 111, 111, 32, 109, 97, 110, 121, 32, 100, 101, 116, 101, 99, 116, 105, 111, 110, 115] : List UInt8), ([101, 108, 115, 101, 119, 104, 101, 114, 101, 32, 97, 116, 32, 116, 104, 97, 116, 32, 116, 105, 109, 101] : List UInt8), ([110, 111, 32, 101, 110, 116, 114, 121] : List UInt8), ([110, 111, 32, 101, 120, 105, 116] : List UInt8), ([99, 104, 101, 99, 107, 32, 112, 111, 105, 110, 116, 115, 32, 97, 108, 111, 110, 101] : List UInt8), ([110, 111, 32, 114, 97, 116, 101] : List UInt8), ([119, 97, 105, 118, 101, 100, 32, 102, 111, 114, 32, 97, 110, 32, 111, 117, 116, 97, 103, 101] : List UInt8), ([101, 120, 101, 109, 112, 116] : List UInt8), ([99, 97, 112, 112, 101, 100] : List UInt8), ([110, 111, 32, 97, 99, 99, 111, 117, 110, 116] : List UInt8), ([97, 108, 114, 101, 97, 100, 121, 32, 112, 97, 105, 100] : List UInt8)] : List (List UInt8))) (Int.toNat why_0) 1 = [.str x5])]) (by kernel_rfl) (by kernel_rfl) ⟨(decide_eq_false c1), (decide_eq_false c2), rfl, ⟨(Int.toNat_of_nonneg h3).symm, h4⟩, ok1 (fl_sub1 (f := e_str) (fun _ => rfl) h6 rfl)⟩
theorem trace_Why_ret (why_0 : Int) (r : (List UInt8)) (h : trace_Why why_0 = some r) : Ret Tryd.prog GT 16 [.int .i64 why_0] (.str r) [] := by
  unfold trace_Why at h
  rcases ite_some h with ⟨c1, h⟩ | ⟨c1, h⟩
  · simp only [Option.some.injEq] at h
    subst h
    exact trace_Why_0 why_0 c1
  · rcases ite_some h with ⟨c2, h⟩ | ⟨c2, h⟩
    · simp only [Option.some.injEq] at h
      subst h
      exact trace_Why_1 why_0 c1 c2
    · obtain ⟨h3, h⟩ := guard_some h
      obtain ⟨h4, h⟩ := guard_some h
      obtain ⟨x5, h6, h⟩ := bind_some h
      simp only [Option.some.injEq] at h
      subst h
      exact trace_Why_2 why_0 c1 c2 h3 h4 x5 h6
noncomputable def trace_Print_L11_step (l_0 : (List Tapi_Fact)) : (Nat × (List UInt8)) → Option ((Nat × (List UInt8)) ⊕ (List UInt8))
  | (k8, b5) =>
    if (↑k8 : Int) < (↑l_0.length : Int) then
      (l_0[k8]?).bind fun x30 =>
      if x30.Kind.length + ([32] : List UInt8).length ≤ 9223372036854775807 then
        (text_Escape x30.Key).bind fun r33 =>
        if (x30.Kind ++ ([32] : List UInt8)).length + r33.length ≤ 9223372036854775807 then
          if b5.length + (((x30.Kind ++ ([32] : List UInt8)) ++ r33).length) ≤ 4294967296 then
            if x30.Why = (0 : Int) then
              if ((b5 ++ ((x30.Kind ++ ([32] : List UInt8)) ++ r33)).length) + 1 ≤ 4294967296 then
                if InR .i64 ((↑k8 : Int) + 1) then
                  some (Sum.inl ((k8 + 1), ((b5 ++ ((x30.Kind ++ ([32] : List UInt8)) ++ r33)) ++ [(10 : UInt8)])))
                else none
              else none
            else
              (trace_Why x30.Why).bind fun r40 =>
              if ([32] : List UInt8).length + r40.length ≤ 9223372036854775807 then
                if ((b5 ++ ((x30.Kind ++ ([32] : List UInt8)) ++ r33)).length) + ((([32] : List UInt8) ++ r40).length) ≤ 4294967296 then
                  if (((b5 ++ ((x30.Kind ++ ([32] : List UInt8)) ++ r33)) ++ (([32] : List UInt8) ++ r40)).length) + 1 ≤ 4294967296 then
                    if InR .i64 ((↑k8 : Int) + 1) then
                      some (Sum.inl ((k8 + 1), (((b5 ++ ((x30.Kind ++ ([32] : List UInt8)) ++ r33)) ++ (([32] : List UInt8) ++ r40)) ++ [(10 : UInt8)])))
                    else none
                  else none
                else none
              else none
          else none
        else none
      else none
    else
      some (Sum.inr b5)
def trace_Print_L11_H (l_0 : (List Tapi_Fact)) : (Nat × (List UInt8)) → St := fun (s : (Nat × (List UInt8))) => S 31 [(3, .ptr 0 0), (6, .lst (fl Tapi_Fact.enc l_0) l_0.length), (7, .int .i64 (↑l_0.length : Int)), (8, .int .i64 (↑s.1 : Int))] [{ c := [.ptr 0 0, .vec 1 s.2.length 1], e := 137, ext := false, fz := 0, pl := false, o := false }, { c := (u8s s.2), e := 5, ext := true, fz := 0, pl := true, o := true }]
theorem trace_Print_L11_0 (l_0 : (List Tapi_Fact)) (k8 : Nat) (b5 : (List UInt8)) (c29 : (↑k8 : Int) < (↑l_0.length : Int)) (x30 : Tapi_Fact) (h31 : l_0[k8]? = some x30) (h32 : x30.Kind.length + ([32] : List UInt8).length ≤ 9223372036854775807) (r33 : (List UInt8)) (h34 : text_Escape x30.Key = some r33) (h35 : (x30.Kind ++ ([32] : List UInt8)).length + r33.length ≤ 9223372036854775807) (h36 : b5.length + (((x30.Kind ++ ([32] : List UInt8)) ++ r33).length) ≤ 4294967296) (c37 : x30.Why = (0 : Int)) (h38 : ((b5 ++ ((x30.Kind ++ ([32] : List UInt8)) ++ r33)).length) + 1 ≤ 4294967296) (h39 : InR .i64 ((↑k8 : Int) + 1)) : Does Tryd.prog GT 1 (bodyAt Tryd.prog 14 [1, 1, 0, 1, 0, 0]) (trace_Print_L11_H l_0 (k8, b5)) .normal (S 31 [(3, .ptr 0 0), (6, .lst (fl Tapi_Fact.enc l_0) l_0.length), (7, .int .i64 (↑l_0.length : Int)), (8, .int .i64 ((↑k8 : Int) + 1))] [{ c := [.ptr 0 0, .vec 1 (((b5 ++ ((x30.Kind ++ ([32] : List UInt8)) ++ r33)) ++ [(10 : UInt8)]).length) 1], e := 137, ext := false, fz := 0, pl := false, o := false }, { c := (u8s ((b5 ++ ((x30.Kind ++ ([32] : List UInt8)) ++ r33)) ++ [(10 : UInt8)])), e := 5, ext := true, fz := 0, pl := true, o := true }]) :=
  Does.of_viewM 1 400 ((.op none .a) :: (.br true) :: (.op none (.i k8)) :: (.op none (.v [.str x30.Kind, .str x30.Key, .int .i64 x30.Why])) :: (cs 4 ((.op none .a) :: (cs 2 ((.ret none [.str x30.Key] (.str r33) []) :: (.op none .a) :: (.draw [[1, 0]]) :: (cs 5 ((.spec (copySpec 137)) :: (cs 6 ((.op none (.ap 4)) :: (.tr (.eqc 3 (u8s (b5 ++ ((x30.Kind ++ ([32] : List UInt8)) ++ r33))))) :: (.tr (.eqt (.t 14) (.vec 3 ((b5 ++ ((x30.Kind ++ ([32] : List UInt8)) ++ r33)).length) 1))) :: (cs 9 ((.op none .a) :: (.br false) :: (cs 4 ((.spec (copySpec 137)) :: (cs 7 ((.op none (.ap 4)) :: (.tr (.eqc 5 (u8s ((b5 ++ ((x30.Kind ++ ([32] : List UInt8)) ++ r33)) ++ [(10 : UInt8)])))) :: (.tr (.eqt (.t 14) (.vec 5 (((b5 ++ ((x30.Kind ++ ([32] : List UInt8)) ++ r33)) ++ [(10 : UInt8)]).length) 1))) :: (cs 4 [.op none .w, .op none .c])))))))))))))))) [0, 5] (ps := [((decide ((↑k8 : Int) < (↑l_0.length : Int))) = true), ((↑k8 : Int) = ((k8 : Nat) : Int) ∧ k8 < l_0.length), ((fl Tapi_Fact.enc l_0) ≠ []), (sub (fl Tapi_Fact.enc l_0) (k8 * 3) 3 = [.str x30.Kind, .str x30.Key, .int .i64 x30.Why]), (x30.Kind.length + ([32] : List UInt8).length ≤ 9223372036854775807), ((.str x30.Key : AV) = .str x30.Key), (Ret Tryd.prog GT 44 [.str x30.Key] (.str r33) []), ((x30.Kind ++ ([32] : List UInt8)).length + r33.length ≤ 9223372036854775807), (SpecOk Tryd.prog GT 64 (copySpec 137)), (True), (List.length ((u8s b5) : List AV) = b5.length), (List.all ((u8s ((x30.Kind ++ ([32] : List UInt8)) ++ r33)) : List AV) AV.one = true), (b5.length + (((x30.Kind ++ ([32] : List UInt8)) ++ r33).length) ≤ 4294967296), ((u8s b5) ++ (u8s ((x30.Kind ++ ([32] : List UInt8)) ++ r33)) = (u8s (b5 ++ ((x30.Kind ++ ([32] : List UInt8)) ++ r33)))), ((.vec 3 (b5.length + (((x30.Kind ++ ([32] : List UInt8)) ++ r33).length)) 1 : AV) = .vec 3 ((b5 ++ ((x30.Kind ++ ([32] : List UInt8)) ++ r33)).length) 1), ((!(x30.Why == (0 : Int))) = false), (SpecOk Tryd.prog GT 64 (copySpec 137)), (True), (0 + 1 ≤ List.length ([.int .u8 10] : List AV)), (List.length ((u8s (b5 ++ ((x30.Kind ++ ([32] : List UInt8)) ++ r33))) : List AV) = ((b5 ++ ((x30.Kind ++ ([32] : List UInt8)) ++ r33)).length)), (List.all ([.int .u8 10] : List AV) AV.one = true), (((b5 ++ ((x30.Kind ++ ([32] : List UInt8)) ++ r33)).length) + 1 ≤ 4294967296), ((u8s (b5 ++ ((x30.Kind ++ ([32] : List UInt8)) ++ r33))) ++ [.int .u8 10] = (u8s ((b5 ++ ((x30.Kind ++ ([32] : List UInt8)) ++ r33)) ++ [(10 : UInt8)]))), ((.vec 5 (((b5 ++ ((x30.Kind ++ ([32] : List UInt8)) ++ r33)).length) + 1) 1 : AV) = .vec 5 (((b5 ++ ((x30.Kind ++ ([32] : List UInt8)) ++ r33)) ++ [(10 : UInt8)]).length) 1), (IntKind.min .i64 ≤ ((↑k8 : Int) + 1) ∧ ((↑k8 : Int) + 1) ≤ IntKind.max .i64)]) (by kernel_rfl) (by kernel_rfl) ⟨(decide_eq_true c29), ⟨rfl, get_lt h31⟩, (fl_ne (f := Tapi_Fact.enc) (z := 2) (fun _ => rfl) h31), (fl_sub0 (f := Tapi_Fact.enc) (z := 3) (j := k8) (fun _ => rfl) h31 rfl), h32, rfl, (text_Escape_ret x30.Key r33 h34), h35, copy_ok, trivial, u8s_length, (u8s_one _), h36, u8s_app.symm, (by simp <;> omega), (not_f (beq_t c37)), copy_ok, trivial, (Nat.le_of_ble_eq_true rfl), u8s_length, rfl, h38, (u8s_snoc rfl), (by simp <;> omega), ok1 h39⟩
theorem trace_Print_L11_1 (l_0 : (List Tapi_Fact)) (k8 : Nat) (b5 : (List UInt8)) (c29 : (↑k8 : Int) < (↑l_0.length : Int)) (x30 : Tapi_Fact) (h31 : l_0[k8]? = some x30) (h32 : x30.Kind.length + ([32] : List UInt8).length ≤ 9223372036854775807) (r33 : (List UInt8)) (h34 : text_Escape x30.Key = some r33) (h35 : (x30.Kind ++ ([32] : List UInt8)).length + r33.length ≤ 9223372036854775807) (h36 : b5.length + (((x30.Kind ++ ([32] : List UInt8)) ++ r33).length) ≤ 4294967296) (c37 : ¬ (x30.Why = (0 : Int))) (r40 : (List UInt8)) (h41 : trace_Why x30.Why = some r40) (h42 : ([32] : List UInt8).length + r40.length ≤ 9223372036854775807) (h43 : ((b5 ++ ((x30.Kind ++ ([32] : List UInt8)) ++ r33)).length) + ((([32] : List UInt8) ++ r40).length) ≤ 4294967296) (h44 : (((b5 ++ ((x30.Kind ++ ([32] : List UInt8)) ++ r33)) ++ (([32] : List UInt8) ++ r40)).length) + 1 ≤ 4294967296) (h45 : InR .i64 ((↑k8 : Int) + 1)) : Does Tryd.prog GT 1 (bodyAt Tryd.prog 14 [1, 1, 0, 1, 0, 0]) (trace_Print_L11_H l_0 (k8, b5)) .normal (S 31 [(3, .ptr 0 0), (6, .lst (fl Tapi_Fact.enc l_0) l_0.length), (7, .int .i64 (↑l_0.length : Int)), (8, .int .i64 ((↑k8 : Int) + 1))] [{ c := [.ptr 0 0, .vec 1 ((((b5 ++ ((x30.Kind ++ ([32] : List UInt8)) ++ r33)) ++ (([32] : List UInt8) ++ r40)) ++ [(10 : UInt8)]).length) 1], e := 137, ext := false, fz := 0, pl := false, o := false }, { c := (u8s (((b5 ++ ((x30.Kind ++ ([32] : List UInt8)) ++ r33)) ++ (([32] : List UInt8) ++ r40)) ++ [(10 : UInt8)])), e := 5, ext := true, fz := 0, pl := true, o := true }]) :=
  Does.of_viewM 1 400 ((.op none .a) :: (.br true) :: (.op none (.i k8)) :: (.op none (.v [.str x30.Kind, .str x30.Key, .int .i64 x30.Why])) :: (cs 4 ((.op none .a) :: (cs 2 ((.ret none [.str x30.Key] (.str r33) []) :: (.op none .a) :: (.draw [[1, 0]]) :: (cs 5 ((.spec (copySpec 137)) :: (cs 6 ((.op none (.ap 4)) :: (.tr (.eqc 3 (u8s (b5 ++ ((x30.Kind ++ ([32] : List UInt8)) ++ r33))))) :: (.tr (.eqt (.t 14) (.vec 3 ((b5 ++ ((x30.Kind ++ ([32] : List UInt8)) ++ r33)).length) 1))) :: (cs 9 ((.op none .a) :: (.br true) :: (cs 2 ((.ret none [.int .i64 x30.Why] (.str r40) []) :: (.op none .a) :: (cs 5 ((.spec (copySpec 137)) :: (cs 6 ((.op none (.ap 4)) :: (.tr (.eqc 4 (u8s ((b5 ++ ((x30.Kind ++ ([32] : List UInt8)) ++ r33)) ++ (([32] : List UInt8) ++ r40))))) :: (.tr (.eqt (.t 14) (.vec 4 (((b5 ++ ((x30.Kind ++ ([32] : List UInt8)) ++ r33)) ++ (([32] : List UInt8) ++ r40)).length) 1))) :: (cs 11 ((.spec (copySpec 137)) :: (cs 7 ((.op none (.ap 4)) :: (.tr (.eqc 6 (u8s (((b5 ++ ((x30.Kind ++ ([32] : List UInt8)) ++ r33)) ++ (([32] : List UInt8) ++ r40)) ++ [(10 : UInt8)])))) :: (.tr (.eqt (.t 14) (.vec 6 ((((b5 ++ ((x30.Kind ++ ([32] : List UInt8)) ++ r33)) ++ (([32] : List UInt8) ++ r40)) ++ [(10 : UInt8)]).length) 1))) :: (cs 4 [.op none .w, .op none .c])))))))))))))))))))))) [0, 6] (ps := [((decide ((↑k8 : Int) < (↑l_0.length : Int))) = true), ((↑k8 : Int) = ((k8 : Nat) : Int) ∧ k8 < l_0.length), ((fl Tapi_Fact.enc l_0) ≠ []), (sub (fl Tapi_Fact.enc l_0) (k8 * 3) 3 = [.str x30.Kind, .str x30.Key, .int .i64 x30.Why]), (x30.Kind.length + ([32] : List UInt8).length ≤ 9223372036854775807), ((.str x30.Key : AV) = .str x30.Key), (Ret Tryd.prog GT 44 [.str x30.Key] (.str r33) []), ((x30.Kind ++ ([32] : List UInt8)).length + r33.length ≤ 9223372036854775807), (SpecOk Tryd.prog GT 64 (copySpec 137)), (True), (List.length ((u8s b5) : List AV) = b5.length), (List.all ((u8s ((x30.Kind ++ ([32] : List UInt8)) ++ r33)) : List AV) AV.one = true), (b5.length + (((x30.Kind ++ ([32] : List UInt8)) ++ r33).length) ≤ 4294967296), ((u8s b5) ++ (u8s ((x30.Kind ++ ([32] : List UInt8)) ++ r33)) = (u8s (b5 ++ ((x30.Kind ++ ([32] : List UInt8)) ++ r33)))), ((.vec 3 (b5.length + (((x30.Kind ++ ([32] : List UInt8)) ++ r33).length)) 1 : AV) = .vec 3 ((b5 ++ ((x30.Kind ++ ([32] : List UInt8)) ++ r33)).length) 1), ((!(x30.Why == (0 : Int))) = true), ((.int .i64 x30.Why : AV) = .int .i64 x30.Why), (Ret Tryd.prog GT 16 [.int .i64 x30.Why] (.str r40) []), (([32] : List UInt8).length + r40.length ≤ 9223372036854775807), (SpecOk Tryd.prog GT 64 (copySpec 137)), (True), (List.length ((u8s (b5 ++ ((x30.Kind ++ ([32] : List UInt8)) ++ r33))) : List AV) = ((b5 ++ ((x30.Kind ++ ([32] : List UInt8)) ++ r33)).length)), (List.all ((u8s (([32] : List UInt8) ++ r40)) : List AV) AV.one = true), (((b5 ++ ((x30.Kind ++ ([32] : List UInt8)) ++ r33)).length) + ((([32] : List UInt8) ++ r40).length) ≤ 4294967296), ((u8s (b5 ++ ((x30.Kind ++ ([32] : List UInt8)) ++ r33))) ++ (u8s (([32] : List UInt8) ++ r40)) = (u8s ((b5 ++ ((x30.Kind ++ ([32] : List UInt8)) ++ r33)) ++ (([32] : List UInt8) ++ r40)))), ((.vec 4 (((b5 ++ ((x30.Kind ++ ([32] : List UInt8)) ++ r33)).length) + ((([32] : List UInt8) ++ r40).length)) 1 : AV) = .vec 4 (((b5 ++ ((x30.Kind ++ ([32] : List UInt8)) ++ r33)) ++ (([32] : List UInt8) ++ r40)).length) 1), (SpecOk Tryd.prog GT 64 (copySpec 137)), (True), (0 + 1 ≤ List.length ([.int .u8 10] : List AV)), (List.length ((u8s ((b5 ++ ((x30.Kind ++ ([32] : List UInt8)) ++ r33)) ++ (([32] : List UInt8) ++ r40))) : List AV) = (((b5 ++ ((x30.Kind ++ ([32] : List UInt8)) ++ r33)) ++ (([32] : List UInt8) ++ r40)).length)), (List.all ([.int .u8 10] : List AV) AV.one = true), ((((b5 ++ ((x30.Kind ++ ([32] : List UInt8)) ++ r33)) ++ (([32] : List UInt8) ++ r40)).length) + 1 ≤ 4294967296), ((u8s ((b5 ++ ((x30.Kind ++ ([32] : List UInt8)) ++ r33)) ++ (([32] : List UInt8) ++ r40))) ++ [.int .u8 10] = (u8s (((b5 ++ ((x30.Kind ++ ([32] : List UInt8)) ++ r33)) ++ (([32] : List UInt8) ++ r40)) ++ [(10 : UInt8)]))), ((.vec 6 ((((b5 ++ ((x30.Kind ++ ([32] : List UInt8)) ++ r33)) ++ (([32] : List UInt8) ++ r40)).length) + 1) 1 : AV) = .vec 6 ((((b5 ++ ((x30.Kind ++ ([32] : List UInt8)) ++ r33)) ++ (([32] : List UInt8) ++ r40)) ++ [(10 : UInt8)]).length) 1), (IntKind.min .i64 ≤ ((↑k8 : Int) + 1) ∧ ((↑k8 : Int) + 1) ≤ IntKind.max .i64)]) (by kernel_rfl) (by kernel_rfl) ⟨(decide_eq_true c29), ⟨rfl, get_lt h31⟩, (fl_ne (f := Tapi_Fact.enc) (z := 2) (fun _ => rfl) h31), (fl_sub0 (f := Tapi_Fact.enc) (z := 3) (j := k8) (fun _ => rfl) h31 rfl), h32, rfl, (text_Escape_ret x30.Key r33 h34), h35, copy_ok, trivial, u8s_length, (u8s_one _), h36, u8s_app.symm, (by simp <;> omega), (not_t (beq_f c37)), rfl, (trace_Why_ret x30.Why r40 h41), h42, copy_ok, trivial, u8s_length, (u8s_one _), h43, u8s_app.symm, (by simp <;> omega), copy_ok, trivial, (Nat.le_of_ble_eq_true rfl), u8s_length, rfl, h44, (u8s_snoc rfl), (by simp <;> omega), ok1 h45⟩
theorem trace_Print_L11_2 (l_0 : (List Tapi_Fact)) (k8 : Nat) (b5 : (List UInt8)) (c29 : ¬ ((↑k8 : Int) < (↑l_0.length : Int))) : Does Tryd.prog GT 1 (bodyAt Tryd.prog 14 [1, 1, 0, 1, 0, 0]) (trace_Print_L11_H l_0 (k8, b5)) (.exit 0) (S 31 [(3, .ptr 0 0)] [{ c := [.ptr 0 0, .vec 1 b5.length 1], e := 137, ext := false, fz := 0, pl := false, o := false }, { c := (u8s b5), e := 5, ext := true, fz := 0, pl := true, o := true }]) :=
  Does.of_viewM 1 400 [.op none .a, .br false] [0, 1] (ps := [((decide ((↑k8 : Int) < (↑l_0.length : Int))) = false)]) (by kernel_rfl) (by kernel_rfl) (ok1 (decide_eq_false c29))
def trace_Print_L11_X (l_0 : (List Tapi_Fact)) : (List UInt8) → AEx := fun o => (.exit 0)
def trace_Print_L11_E (l_0 : (List Tapi_Fact)) : (List UInt8) → St := fun o => S 31 [(3, .ptr 0 0)] [{ c := [.ptr 0 0, .vec 1 o.length 1], e := 137, ext := false, fz := 0, pl := false, o := false }, { c := (u8s o), e := 5, ext := true, fz := 0, pl := true, o := true }]
theorem trace_Print_L11_does (l_0 : (List Tapi_Fact)) {s : (Nat × (List UInt8))} {r : (List UInt8)} (h : lp (trace_Print_L11_step l_0) s = some r) : Does Tryd.prog GT 1 (.loop (bodyAt Tryd.prog 14 [1, 1, 0, 1, 0, 0])) (trace_Print_L11_H l_0 s) (trace_Print_L11_X l_0 r) (trace_Print_L11_E l_0 r) := by
  refine Does.lp (H := trace_Print_L11_H l_0) (X := trace_Print_L11_X l_0) (E := trace_Print_L11_E l_0) (fun s s2 h => ?_) (fun s r h => ?_) h
  · obtain ⟨k8, b5⟩ := s
    unfold trace_Print_L11_step at h
    try dsimp only at h
    rcases ite_some h with ⟨c29, h⟩ | ⟨c29, h⟩
    · obtain ⟨x30, h31, h⟩ := bind_some h
      obtain ⟨h32, h⟩ := guard_some h
      obtain ⟨r33, h34, h⟩ := bind_some h
      obtain ⟨h35, h⟩ := guard_some h
      obtain ⟨h36, h⟩ := guard_some h
      rcases ite_some h with ⟨c37, h⟩ | ⟨c37, h⟩
      · obtain ⟨h38, h⟩ := guard_some h
        obtain ⟨h39, h⟩ := guard_some h
        simp only [Option.some.injEq, Sum.inl.injEq] at h
        subst h
        have hq := trace_Print_L11_0 l_0 k8 b5 c29 x30 h31 h32 r33 h34 h35 h36 c37 h38 h39
        first | exact hq | exact Eq.mp (by simp only [trace_Print_L11_H, List.length_set] <;> rfl) hq
      · obtain ⟨r40, h41, h⟩ := bind_some h
        obtain ⟨h42, h⟩ := guard_some h
        obtain ⟨h43, h⟩ := guard_some h
        obtain ⟨h44, h⟩ := guard_some h
        obtain ⟨h45, h⟩ := guard_some h
        simp only [Option.some.injEq, Sum.inl.injEq] at h
        subst h
        have hq := trace_Print_L11_1 l_0 k8 b5 c29 x30 h31 h32 r33 h34 h35 h36 c37 r40 h41 h42 h43 h44 h45
        first | exact hq | exact Eq.mp (by simp only [trace_Print_L11_H, List.length_set] <;> rfl) hq
    · simp at h
  · obtain ⟨k8, b5⟩ := s
    unfold trace_Print_L11_step at h
    try dsimp only at h
    rcases ite_some h with ⟨c29, h⟩ | ⟨c29, h⟩
    · obtain ⟨x30, h31, h⟩ := bind_some h
      obtain ⟨h32, h⟩ := guard_some h
      obtain ⟨r33, h34, h⟩ := bind_some h
      obtain ⟨h35, h⟩ := guard_some h
      obtain ⟨h36, h⟩ := guard_some h
      rcases ite_some h with ⟨c37, h⟩ | ⟨c37, h⟩
      · obtain ⟨h38, h⟩ := guard_some h
        obtain ⟨h39, h⟩ := guard_some h
        simp at h
      · obtain ⟨r40, h41, h⟩ := bind_some h
        obtain ⟨h42, h⟩ := guard_some h
        obtain ⟨h43, h⟩ := guard_some h
        obtain ⟨h44, h⟩ := guard_some h
        obtain ⟨h45, h⟩ := guard_some h
        simp at h
    · simp only [Option.some.injEq, Sum.inr.injEq] at h
      subst h
      exact ⟨trace_Print_L11_2 l_0 k8 b5 c29, by intro q; cases q⟩
noncomputable def trace_Print (l_0 : (List Tapi_Fact)) : Option (List UInt8) :=
  if (0 : Int) < (↑l_0.length : Int) then
    (l_0[0]?).bind fun x2 =>
    if x2.Kind.length + ([32] : List UInt8).length ≤ 9223372036854775807 then
      (text_Escape x2.Key).bind fun r5 =>
      if (x2.Kind ++ ([32] : List UInt8)).length + r5.length ≤ 9223372036854775807 then
        if 0 + (((x2.Kind ++ ([32] : List UInt8)) ++ r5).length) ≤ 4294967296 then
          if x2.Why = (0 : Int) then
            if (((x2.Kind ++ ([32] : List UInt8)) ++ r5).length) + 1 ≤ 4294967296 then
              (lp (trace_Print_L11_step l_0) ((1 : Nat), (((x2.Kind ++ ([32] : List UInt8)) ++ r5) ++ [(10 : UInt8)]))).bind fun o11 =>
              if o11.length ≤ 9223372036854775807 then
                some o11
              else none
            else none
          else
            (trace_Why x2.Why).bind fun r47 =>
            if ([32] : List UInt8).length + r47.length ≤ 9223372036854775807 then
              if (((x2.Kind ++ ([32] : List UInt8)) ++ r5).length) + ((([32] : List UInt8) ++ r47).length) ≤ 4294967296 then
                if ((((x2.Kind ++ ([32] : List UInt8)) ++ r5) ++ (([32] : List UInt8) ++ r47)).length) + 1 ≤ 4294967296 then
                  (lp (trace_Print_L11_step l_0) ((1 : Nat), ((((x2.Kind ++ ([32] : List UInt8)) ++ r5) ++ (([32] : List UInt8) ++ r47)) ++ [(10 : UInt8)]))).bind fun o52 =>
                  if o52.length ≤ 9223372036854775807 then
                    some o52
                  else none
                else none
              else none
            else none
        else none
      else none
    else none
  else
    some ([] : List UInt8)
theorem trace_Print_0 (l_0 : (List Tapi_Fact)) (c1 : (0 : Int) < (↑l_0.length : Int)) (x2 : Tapi_Fact) (h3 : l_0[0]? = some x2) (h4 : x2.Kind.length + ([32] : List UInt8).length ≤ 9223372036854775807) (r5 : (List UInt8)) (h6 : text_Escape x2.Key = some r5) (h7 : (x2.Kind ++ ([32] : List UInt8)).length + r5.length ≤ 9223372036854775807) (h8 : 0 + (((x2.Kind ++ ([32] : List UInt8)) ++ r5).length) ≤ 4294967296) (c9 : x2.Why = (0 : Int)) (h10 : (((x2.Kind ++ ([32] : List UInt8)) ++ r5).length) + 1 ≤ 4294967296) (o11 : (List UInt8)) (hl11 : lp (trace_Print_L11_step l_0) ((1 : Nat), (((x2.Kind ++ ([32] : List UInt8)) ++ r5) ++ [(10 : UInt8)])) = some o11) (h46 : o11.length ≤ 9223372036854775807) : Ret Tryd.prog GT 14 [.lst (fl Tapi_Fact.enc l_0) l_0.length] (.str o11) [] :=
  Ret.of_view 400 (cs 5 ((.op none .a) :: (.br true) :: (.op none (.i 0)) :: (.op none (.v [.str x2.Kind, .str x2.Key, .int .i64 x2.Why])) :: (cs 4 ((.op none .a) :: (cs 2 ((.ret none [.str x2.Key] (.str r5) []) :: (.op none .a) :: (.draw [[0]]) :: (cs 5 ((.spec (copySpec 137)) :: (cs 6 ((.tr (.vec (.t 12) 1 5)) :: (.op none (.ap 4)) :: (.tr (.eqc 3 (u8s ((x2.Kind ++ ([32] : List UInt8)) ++ r5)))) :: (.tr (.eqt (.t 14) (.vec 3 (((x2.Kind ++ ([32] : List UInt8)) ++ r5).length) 1))) :: (cs 9 ((.op none .a) :: (.br false) :: (cs 4 ((.spec (copySpec 137)) :: (cs 7 ((.op none (.ap 4)) :: (.tr (.eqc 5 (u8s (((x2.Kind ++ ([32] : List UInt8)) ++ r5) ++ [(10 : UInt8)])))) :: (.tr (.eqt (.t 14) (.vec 5 ((((x2.Kind ++ ([32] : List UInt8)) ++ r5) ++ [(10 : UInt8)]).length) 1))) :: (cs 6 [.fcut 1 (.exit 0) [(3, .ptr 0 0)] [{ c := [.ptr 0 0, .vec 1 o11.length 1], e := 137, ext := false, fz := 0, pl := false, o := false }, { c := (u8s o11), e := 5, ext := true, fz := 0, pl := true, o := true }] [0, 5] [(3, .ptr 0 0), (6, .lst (fl Tapi_Fact.enc l_0) l_0.length), (7, .int .i64 (↑l_0.length : Int)), (8, .int .i64 (↑(1 : Nat) : Int))] [{ c := [.ptr 0 0, .vec 1 ((((x2.Kind ++ ([32] : List UInt8)) ++ r5) ++ [(10 : UInt8)]).length) 1], e := 137, ext := false, fz := 0, pl := false, o := false }, { c := (u8s (((x2.Kind ++ ([32] : List UInt8)) ++ r5) ++ [(10 : UInt8)])), e := 5, ext := true, fz := 0, pl := true, o := true }], .op none .c, .spec (strSpec o11), .op none .c]))))))))))))))))) [] (ps := [((decide ((0 : Int) < (↑l_0.length : Int))) = true), ((0 : Int) = ((0 : Nat) : Int) ∧ 0 < l_0.length), ((fl Tapi_Fact.enc l_0) ≠ []), (sub (fl Tapi_Fact.enc l_0) 0 3 = [.str x2.Kind, .str x2.Key, .int .i64 x2.Why]), (x2.Kind.length + ([32] : List UInt8).length ≤ 9223372036854775807), ((.str x2.Key : AV) = .str x2.Key), (Ret Tryd.prog GT 44 [.str x2.Key] (.str r5) []), ((x2.Kind ++ ([32] : List UInt8)).length + r5.length ≤ 9223372036854775807), (SpecOk Tryd.prog GT 64 (copySpec 137)), (True), (List.length ([] : List AV) = 0), (List.all ((u8s ((x2.Kind ++ ([32] : List UInt8)) ++ r5)) : List AV) AV.one = true), (0 + (((x2.Kind ++ ([32] : List UInt8)) ++ r5).length) ≤ 4294967296), ([] ++ (u8s ((x2.Kind ++ ([32] : List UInt8)) ++ r5)) = (u8s ((x2.Kind ++ ([32] : List UInt8)) ++ r5))), ((.vec 3 (0 + (((x2.Kind ++ ([32] : List UInt8)) ++ r5).length)) 1 : AV) = .vec 3 (((x2.Kind ++ ([32] : List UInt8)) ++ r5).length) 1), ((!(x2.Why == (0 : Int))) = false), (SpecOk Tryd.prog GT 64 (copySpec 137)), (True), (0 + 1 ≤ List.length ([.int .u8 10] : List AV)), (List.length ((u8s ((x2.Kind ++ ([32] : List UInt8)) ++ r5)) : List AV) = (((x2.Kind ++ ([32] : List UInt8)) ++ r5).length)), (List.all ([.int .u8 10] : List AV) AV.one = true), ((((x2.Kind ++ ([32] : List UInt8)) ++ r5).length) + 1 ≤ 4294967296), ((u8s ((x2.Kind ++ ([32] : List UInt8)) ++ r5)) ++ [.int .u8 10] = (u8s (((x2.Kind ++ ([32] : List UInt8)) ++ r5) ++ [(10 : UInt8)]))), ((.vec 5 ((((x2.Kind ++ ([32] : List UInt8)) ++ r5).length) + 1) 1 : AV) = .vec 5 ((((x2.Kind ++ ([32] : List UInt8)) ++ r5) ++ [(10 : UInt8)]).length) 1), ((.ptr 0 0 : AV) = .ptr 0 0), ((.lst (fl Tapi_Fact.enc l_0) l_0.length : AV) = .lst (fl Tapi_Fact.enc l_0) l_0.length), ((.int .i64 (↑l_0.length : Int) : AV) = .int .i64 (↑l_0.length : Int)), ((.int .i64 1 : AV) = .int .i64 (↑(1 : Nat) : Int)), (({ c := [.ptr 0 0, .vec 5 ((((x2.Kind ++ ([32] : List UInt8)) ++ r5) ++ [(10 : UInt8)]).length) 1], e := 137, ext := false, fz := 0, pl := false, o := false } : Blk) = renB [0, 5] { c := [.ptr 0 0, .vec 1 ((((x2.Kind ++ ([32] : List UInt8)) ++ r5) ++ [(10 : UInt8)]).length) 1], e := 137, ext := false, fz := 0, pl := false, o := false }), (({ c := (u8s (((x2.Kind ++ ([32] : List UInt8)) ++ r5) ++ [(10 : UInt8)])), e := 5, ext := true, fz := 0, pl := true, o := true } : Blk) = renB [0, 5] { c := (u8s (((x2.Kind ++ ([32] : List UInt8)) ++ r5) ++ [(10 : UInt8)])), e := 5, ext := true, fz := 0, pl := true, o := true }), (Does Tryd.prog GT 1 (.loop (bodyAt Tryd.prog 14 [1, 1, 0, 1, 0, 0])) (S 31 [(3, .ptr 0 0), (6, .lst (fl Tapi_Fact.enc l_0) l_0.length), (7, .int .i64 (↑l_0.length : Int)), (8, .int .i64 (↑(1 : Nat) : Int))] [{ c := [.ptr 0 0, .vec 1 ((((x2.Kind ++ ([32] : List UInt8)) ++ r5) ++ [(10 : UInt8)]).length) 1], e := 137, ext := false, fz := 0, pl := false, o := false }, { c := (u8s (((x2.Kind ++ ([32] : List UInt8)) ++ r5) ++ [(10 : UInt8)])), e := 5, ext := true, fz := 0, pl := true, o := true }]) (.exit 0) (S 31 [(3, .ptr 0 0)] [{ c := [.ptr 0 0, .vec 1 o11.length 1], e := 137, ext := false, fz := 0, pl := false, o := false }, { c := (u8s o11), e := 5, ext := true, fz := 0, pl := true, o := true }])), (SpecOk Tryd.prog GT 46 (strSpec o11)), (o11.length = o11.length ∧ (u8s o11) = u8s o11 ∧ o11.length ≤ 9223372036854775807)]) (by kernel_rfl) (by kernel_rfl) ⟨(decide_eq_true c1), ⟨rfl, get_lt h3⟩, (fl_ne (f := Tapi_Fact.enc) (z := 2) (fun _ => rfl) h3), (fl_sub0 (f := Tapi_Fact.enc) (z := 3) (j := 0) (fun _ => rfl) h3 rfl), h4, rfl, (text_Escape_ret x2.Key r5 h6), h7, copy_ok, trivial, rfl, (u8s_one _), h8, rfl, (by simp <;> omega), (not_f (beq_t c9)), copy_ok, trivial, (Nat.le_of_ble_eq_true rfl), u8s_length, rfl, h10, (u8s_snoc rfl), (by simp <;> omega), rfl, rfl, rfl, rfl, rfl, rfl, (trace_Print_L11_does l_0 hl11), (str_ok _), ok1 ⟨rfl, rfl, h46⟩⟩
theorem trace_Print_1 (l_0 : (List Tapi_Fact)) (c1 : (0 : Int) < (↑l_0.length : Int)) (x2 : Tapi_Fact) (h3 : l_0[0]? = some x2) (h4 : x2.Kind.length + ([32] : List UInt8).length ≤ 9223372036854775807) (r5 : (List UInt8)) (h6 : text_Escape x2.Key = some r5) (h7 : (x2.Kind ++ ([32] : List UInt8)).length + r5.length ≤ 9223372036854775807) (h8 : 0 + (((x2.Kind ++ ([32] : List UInt8)) ++ r5).length) ≤ 4294967296) (c9 : ¬ (x2.Why = (0 : Int))) (r47 : (List UInt8)) (h48 : trace_Why x2.Why = some r47) (h49 : ([32] : List UInt8).length + r47.length ≤ 9223372036854775807) (h50 : (((x2.Kind ++ ([32] : List UInt8)) ++ r5).length) + ((([32] : List UInt8) ++ r47).length) ≤ 4294967296) (h51 : ((((x2.Kind ++ ([32] : List UInt8)) ++ r5) ++ (([32] : List UInt8) ++ r47)).length) + 1 ≤ 4294967296) (o52 : (List UInt8)) (hl52 : lp (trace_Print_L11_step l_0) ((1 : Nat), ((((x2.Kind ++ ([32] : List UInt8)) ++ r5) ++ (([32] : List UInt8) ++ r47)) ++ [(10 : UInt8)])) = some o52) (h87 : o52.length ≤ 9223372036854775807) : Ret Tryd.prog GT 14 [.lst (fl Tapi_Fact.enc l_0) l_0.length] (.str o52) [] :=
  Ret.of_view 400 (cs 5 ((.op none .a) :: (.br true) :: (.op none (.i 0)) :: (.op none (.v [.str x2.Kind, .str x2.Key, .int .i64 x2.Why])) :: (cs 4 ((.op none .a) :: (cs 2 ((.ret none [.str x2.Key] (.str r5) []) :: (.op none .a) :: (.draw [[0]]) :: (cs 5 ((.spec (copySpec 137)) :: (cs 6 ((.tr (.vec (.t 12) 1 5)) :: (.op none (.ap 4)) :: (.tr (.eqc 3 (u8s ((x2.Kind ++ ([32] : List UInt8)) ++ r5)))) :: (.tr (.eqt (.t 14) (.vec 3 (((x2.Kind ++ ([32] : List UInt8)) ++ r5).length) 1))) :: (cs 9 ((.op none .a) :: (.br true) :: (cs 2 ((.ret none [.int .i64 x2.Why] (.str r47) []) :: (.op none .a) :: (cs 5 ((.spec (copySpec 137)) :: (cs 6 ((.op none (.ap 4)) :: (.tr (.eqc 4 (u8s (((x2.Kind ++ ([32] : List UInt8)) ++ r5) ++ (([32] : List UInt8) ++ r47))))) :: (.tr (.eqt (.t 14) (.vec 4 ((((x2.Kind ++ ([32] : List UInt8)) ++ r5) ++ (([32] : List UInt8) ++ r47)).length) 1))) :: (cs 11 ((.spec (copySpec 137)) :: (cs 7 ((.op none (.ap 4)) :: (.tr (.eqc 6 (u8s ((((x2.Kind ++ ([32] : List UInt8)) ++ r5) ++ (([32] : List UInt8) ++ r47)) ++ [(10 : UInt8)])))) :: (.tr (.eqt (.t 14) (.vec 6 (((((x2.Kind ++ ([32] : List UInt8)) ++ r5) ++ (([32] : List UInt8) ++ r47)) ++ [(10 : UInt8)]).length) 1))) :: (cs 6 [.fcut 1 (.exit 0) [(3, .ptr 0 0)] [{ c := [.ptr 0 0, .vec 1 o52.length 1], e := 137, ext := false, fz := 0, pl := false, o := false }, { c := (u8s o52), e := 5, ext := true, fz := 0, pl := true, o := true }] [0, 6] [(3, .ptr 0 0), (6, .lst (fl Tapi_Fact.enc l_0) l_0.length), (7, .int .i64 (↑l_0.length : Int)), (8, .int .i64 (↑(1 : Nat) : Int))] [{ c := [.ptr 0 0, .vec 1 (((((x2.Kind ++ ([32] : List UInt8)) ++ r5) ++ (([32] : List UInt8) ++ r47)) ++ [(10 : UInt8)]).length) 1], e := 137, ext := false, fz := 0, pl := false, o := false }, { c := (u8s ((((x2.Kind ++ ([32] : List UInt8)) ++ r5) ++ (([32] : List UInt8) ++ r47)) ++ [(10 : UInt8)])), e := 5, ext := true, fz := 0, pl := true, o := true }], .op none .c, .spec (strSpec o52), .op none .c]))))))))))))))))))))))) [] (ps := [((decide ((0 : Int) < (↑l_0.length : Int))) = true), ((0 : Int) = ((0 : Nat) : Int) ∧ 0 < l_0.length), ((fl Tapi_Fact.enc l_0) ≠ []), (sub (fl Tapi_Fact.enc l_0) 0 3 = [.str x2.Kind, .str x2.Key, .int .i64 x2.Why]), (x2.Kind.length + ([32] : List UInt8).length ≤ 9223372036854775807), ((.str x2.Key : AV) = .str x2.Key), (Ret Tryd.prog GT 44 [.str x2.Key] (.str r5) []), ((x2.Kind ++ ([32] : List UInt8)).length + r5.length ≤ 9223372036854775807), (SpecOk Tryd.prog GT 64 (copySpec 137)), (True), (List.length ([] : List AV) = 0), (List.all ((u8s ((x2.Kind ++ ([32] : List UInt8)) ++ r5)) : List AV) AV.one = true), (0 + (((x2.Kind ++ ([32] : List UInt8)) ++ r5).length) ≤ 4294967296), ([] ++ (u8s ((x2.Kind ++ ([32] : List UInt8)) ++ r5)) = (u8s ((x2.Kind ++ ([32] : List UInt8)) ++ r5))), ((.vec 3 (0 + (((x2.Kind ++ ([32] : List UInt8)) ++ r5).length)) 1 : AV) = .vec 3 (((x2.Kind ++ ([32] : List UInt8)) ++ r5).length) 1), ((!(x2.Why == (0 : Int))) = true), ((.int .i64 x2.Why : AV) = .int .i64 x2.Why), (Ret Tryd.prog GT 16 [.int .i64 x2.Why] (.str r47) []), (([32] : List UInt8).length + r47.length ≤ 9223372036854775807), (SpecOk Tryd.prog GT 64 (copySpec 137)), (True), (List.length ((u8s ((x2.Kind ++ ([32] : List UInt8)) ++ r5)) : List AV) = (((x2.Kind ++ ([32] : List UInt8)) ++ r5).length)), (List.all ((u8s (([32] : List UInt8) ++ r47)) : List AV) AV.one = true), ((((x2.Kind ++ ([32] : List UInt8)) ++ r5).length) + ((([32] : List UInt8) ++ r47).length) ≤ 4294967296), ((u8s ((x2.Kind ++ ([32] : List UInt8)) ++ r5)) ++ (u8s (([32] : List UInt8) ++ r47)) = (u8s (((x2.Kind ++ ([32] : List UInt8)) ++ r5) ++ (([32] : List UInt8) ++ r47)))), ((.vec 4 ((((x2.Kind ++ ([32] : List UInt8)) ++ r5).length) + ((([32] : List UInt8) ++ r47).length)) 1 : AV) = .vec 4 ((((x2.Kind ++ ([32] : List UInt8)) ++ r5) ++ (([32] : List UInt8) ++ r47)).length) 1), (SpecOk Tryd.prog GT 64 (copySpec 137)), (True), (0 + 1 ≤ List.length ([.int .u8 10] : List AV)), (List.length ((u8s (((x2.Kind ++ ([32] : List UInt8)) ++ r5) ++ (([32] : List UInt8) ++ r47))) : List AV) = ((((x2.Kind ++ ([32] : List UInt8)) ++ r5) ++ (([32] : List UInt8) ++ r47)).length)), (List.all ([.int .u8 10] : List AV) AV.one = true), (((((x2.Kind ++ ([32] : List UInt8)) ++ r5) ++ (([32] : List UInt8) ++ r47)).length) + 1 ≤ 4294967296), ((u8s (((x2.Kind ++ ([32] : List UInt8)) ++ r5) ++ (([32] : List UInt8) ++ r47))) ++ [.int .u8 10] = (u8s ((((x2.Kind ++ ([32] : List UInt8)) ++ r5) ++ (([32] : List UInt8) ++ r47)) ++ [(10 : UInt8)]))), ((.vec 6 (((((x2.Kind ++ ([32] : List UInt8)) ++ r5) ++ (([32] : List UInt8) ++ r47)).length) + 1) 1 : AV) = .vec 6 (((((x2.Kind ++ ([32] : List UInt8)) ++ r5) ++ (([32] : List UInt8) ++ r47)) ++ [(10 : UInt8)]).length) 1), ((.ptr 0 0 : AV) = .ptr 0 0), ((.lst (fl Tapi_Fact.enc l_0) l_0.length : AV) = .lst (fl Tapi_Fact.enc l_0) l_0.length), ((.int .i64 (↑l_0.length : Int) : AV) = .int .i64 (↑l_0.length : Int)), ((.int .i64 1 : AV) = .int .i64 (↑(1 : Nat) : Int)), (({ c := [.ptr 0 0, .vec 6 (((((x2.Kind ++ ([32] : List UInt8)) ++ r5) ++ (([32] : List UInt8) ++ r47)) ++ [(10 : UInt8)]).length) 1], e := 137, ext := false, fz := 0, pl := false, o := false } : Blk) = renB [0, 6] { c := [.ptr 0 0, .vec 1 (((((x2.Kind ++ ([32] : List UInt8)) ++ r5) ++ (([32] : List UInt8) ++ r47)) ++ [(10 : UInt8)]).length) 1], e := 137, ext := false, fz := 0, pl := false, o := false }), (({ c := (u8s ((((x2.Kind ++ ([32] : List UInt8)) ++ r5) ++ (([32] : List UInt8) ++ r47)) ++ [(10 : UInt8)])), e := 5, ext := true, fz := 0, pl := true, o := true } : Blk) = renB [0, 6] { c := (u8s ((((x2.Kind ++ ([32] : List UInt8)) ++ r5) ++ (([32] : List UInt8) ++ r47)) ++ [(10 : UInt8)])), e := 5, ext := true, fz := 0, pl := true, o := true }), (Does Tryd.prog GT 1 (.loop (bodyAt Tryd.prog 14 [1, 1, 0, 1, 0, 0])) (S 31 [(3, .ptr 0 0), (6, .lst (fl Tapi_Fact.enc l_0) l_0.length), (7, .int .i64 (↑l_0.length : Int)), (8, .int .i64 (↑(1 : Nat) : Int))] [{ c := [.ptr 0 0, .vec 1 (((((x2.Kind ++ ([32] : List UInt8)) ++ r5) ++ (([32] : List UInt8) ++ r47)) ++ [(10 : UInt8)]).length) 1], e := 137, ext := false, fz := 0, pl := false, o := false }, { c := (u8s ((((x2.Kind ++ ([32] : List UInt8)) ++ r5) ++ (([32] : List UInt8) ++ r47)) ++ [(10 : UInt8)])), e := 5, ext := true, fz := 0, pl := true, o := true }]) (.exit 0) (S 31 [(3, .ptr 0 0)] [{ c := [.ptr 0 0, .vec 1 o52.length 1], e := 137, ext := false, fz := 0, pl := false, o := false }, { c := (u8s o52), e := 5, ext := true, fz := 0, pl := true, o := true }])), (SpecOk Tryd.prog GT 46 (strSpec o52)), (o52.length = o52.length ∧ (u8s o52) = u8s o52 ∧ o52.length ≤ 9223372036854775807)]) (by kernel_rfl) (by kernel_rfl) ⟨(decide_eq_true c1), ⟨rfl, get_lt h3⟩, (fl_ne (f := Tapi_Fact.enc) (z := 2) (fun _ => rfl) h3), (fl_sub0 (f := Tapi_Fact.enc) (z := 3) (j := 0) (fun _ => rfl) h3 rfl), h4, rfl, (text_Escape_ret x2.Key r5 h6), h7, copy_ok, trivial, rfl, (u8s_one _), h8, rfl, (by simp <;> omega), (not_t (beq_f c9)), rfl, (trace_Why_ret x2.Why r47 h48), h49, copy_ok, trivial, u8s_length, (u8s_one _), h50, u8s_app.symm, (by simp <;> omega), copy_ok, trivial, (Nat.le_of_ble_eq_true rfl), u8s_length, rfl, h51, (u8s_snoc rfl), (by simp <;> omega), rfl, rfl, rfl, rfl, rfl, rfl, (trace_Print_L11_does l_0 hl52), (str_ok _), ok1 ⟨rfl, rfl, h87⟩⟩
theorem trace_Print_2 (l_0 : (List Tapi_Fact)) (c1 : ¬ ((0 : Int) < (↑l_0.length : Int))) : Ret Tryd.prog GT 14 [.lst (fl Tapi_Fact.enc l_0) l_0.length] (.str []) [] :=
  Ret.of_view 400 (cs 5 [.op none .a, .br false, .op none .c, .spec strNil, .op none .c]) [] (ps := [((decide ((0 : Int) < (↑l_0.length : Int))) = false), (SpecOk Tryd.prog GT 46 strNil), (True)]) (by kernel_rfl) (by kernel_rfl) ⟨(decide_eq_false c1), nil_ok, ok1 trivial⟩
theorem trace_Print_ret (l_0 : (List Tapi_Fact)) (r : (List UInt8)) (h : trace_Print l_0 = some r) : Ret Tryd.prog GT 14 [.lst (fl Tapi_Fact.enc l_0) l_0.length] (.str r) [] := by
  unfold trace_Print at h
  rcases ite_some h with ⟨c1, h⟩ | ⟨c1, h⟩
  · obtain ⟨x2, h3, h⟩ := bind_some h
    obtain ⟨h4, h⟩ := guard_some h
    obtain ⟨r5, h6, h⟩ := bind_some h
    obtain ⟨h7, h⟩ := guard_some h
    obtain ⟨h8, h⟩ := guard_some h
    rcases ite_some h with ⟨c9, h⟩ | ⟨c9, h⟩
    · obtain ⟨h10, h⟩ := guard_some h
      obtain ⟨o11, hl11, h⟩ := bind_some h
      obtain ⟨h46, h⟩ := guard_some h
      simp only [Option.some.injEq] at h
      subst h
      exact trace_Print_0 l_0 c1 x2 h3 h4 r5 h6 h7 h8 c9 h10 o11 hl11 h46
    · obtain ⟨r47, h48, h⟩ := bind_some h
      obtain ⟨h49, h⟩ := guard_some h
      obtain ⟨h50, h⟩ := guard_some h
      obtain ⟨h51, h⟩ := guard_some h
      obtain ⟨o52, hl52, h⟩ := bind_some h
      obtain ⟨h87, h⟩ := guard_some h
      simp only [Option.some.injEq] at h
      subst h
      exact trace_Print_1 l_0 c1 x2 h3 h4 r5 h6 h7 h8 c9 r47 h48 h49 h50 h51 o52 hl52 h87
  · simp only [Option.some.injEq] at h
    subst h
    exact trace_Print_2 l_0 c1
end Go.Proofs.YtalobodhbbkgdabDoor.Av
