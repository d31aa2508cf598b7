import Derived.Test.YtnlaiahcemckkaaGreatDoorAvZ
import Derived.Test.YtnlaiahcemckkaaGreatDoorProg
import Derived.Tactics
import Derived.Test.YtnlaiahcemckkaaGreatDoorBS1
set_option linter.unusedVariables false
set_option linter.unusedSimpArgs false
set_option maxHeartbeats 4000000
namespace Go.Proofs.YtnlaiahcemckkaaGreatDoor.Av
open Go Go.Proofs
noncomputable def tollwayref01_Before_L1_step (a_0 : (List UInt8)) (b_1 : (List UInt8)) : Nat → Option (Nat ⊕ (Bool ⊕ Unit)) := fun k5 =>
  if (↑k5 : Int) < (↑a_0.length : Int) then
    if (↑k5 : Int) < (↑b_1.length : Int) then
      (a_0[k5]?).bind fun x12 =>
      (b_1[k5]?).bind fun x14 =>
      if (x12.toNat : Int) = (x14.toNat : Int) then
        if InR .i64 ((↑k5 : Int) + 1) then
          some (Sum.inl (k5 + 1))
        else none
      else
        some (Sum.inr (Sum.inl (decide ((x12.toNat : Int) < (x14.toNat : Int)))))
    else
      some (Sum.inr (Sum.inr (())))
  else
    some (Sum.inr (Sum.inr (())))
def tollwayref01_Before_L1_H (a_0 : (List UInt8)) (b_1 : (List UInt8)) : Nat → St := fun (s : Nat) => S 37 [(0, .str a_0), (1, .str b_1), (5, .int .i64 (↑s : Int))] []
def tollwayref01_Before_L1_h1  : List CH := (cs 3 [.op none .a, .op none .c])
def tollwayref01_Before_L1_h2  : List CH := ((.op (some true) .c) :: (cs 2 [.op none .a, .op none .c]))
def tollwayref01_Before_L1_h3 (k5 : Nat) (x12 : UInt8) (x14 : UInt8) : List CH := ((.br true) :: (cs 2 ((.op none (.i k5)) :: (.trp (.eqt (.t 20) (.int .u8 (x12.toNat : Int)))) :: (cs 2 [.op none (.i k5), .trp (.eqt (.t 23) (.int .u8 (x14.toNat : Int))), .op none .a]))))
def tollwayref01_Before_L1_p4 (a_0 : (List UInt8)) (b_1 : (List UInt8)) (k5 : Nat) (x12 : UInt8) (x14 : UInt8) : List Prop := [((decide ((↑k5 : Int) < (↑b_1.length : Int))) = true), ((↑k5 : Int) = ((k5 : Nat) : Int) ∧ k5 < a_0.length), ((.int .u8 ((List.getD a_0 k5 0).toNat : Int) : AV) = .int .u8 (x12.toNat : Int)), ((↑k5 : Int) = ((k5 : Nat) : Int) ∧ k5 < b_1.length), ((.int .u8 ((List.getD b_1 k5 0).toNat : Int) : AV) = .int .u8 (x14.toNat : Int))]
theorem tollwayref01_Before_L1_p4q (a_0 : (List UInt8)) (b_1 : (List UInt8)) (k5 : Nat) (c11 : (↑k5 : Int) < (↑b_1.length : Int)) (x12 : UInt8) (h13 : a_0[k5]? = some x12) (x14 : UInt8) (h15 : b_1[k5]? = some x14) : allOk (tollwayref01_Before_L1_p4 a_0 b_1 k5 x12 x14) := ⟨(decide_eq_true c11), ⟨rfl, get_lt h13⟩, (getD_u8 h13), ⟨rfl, get_lt h15⟩, ok1 (getD_u8 h15)⟩
theorem tollwayref01_Before_L1_0 (a_0 : (List UInt8)) (b_1 : (List UInt8)) (k5 : Nat) (c10 : (↑k5 : Int) < (↑a_0.length : Int)) (c11 : (↑k5 : Int) < (↑b_1.length : Int)) (x12 : UInt8) (h13 : a_0[k5]? = some x12) (x14 : UInt8) (h15 : b_1[k5]? = some x14) (c16 : (x12.toNat : Int) = (x14.toNat : Int)) (h17 : InR .i64 ((↑k5 : Int) + 1)) : Does Tryz.prog GT 0 (bodyAt Tryz.prog 322 [1, 0, 1, 0, 0]) (tollwayref01_Before_L1_H a_0 b_1 k5) .normal (S 37 [(0, .str a_0), (1, .str b_1), (5, .int .i64 ((↑k5 : Int) + 1))] []) :=
  Does.of_viewM 0 400 ((tollwayref01_Before_L1_h1) ++ ((tollwayref01_Before_L1_h2) ++ ((tollwayref01_Before_L1_h3 k5 x12 x14) ++ [.br false, .op none .c, .op none .w, .op none .c]))) [] (ps := ([((decide ((↑k5 : Int) < (↑a_0.length : Int))) = true)] ++ ((tollwayref01_Before_L1_p4 a_0 b_1 k5 x12 x14) ++ [((!((x12.toNat : Int) == (x14.toNat : Int))) = false), (IntKind.min .i64 ≤ ((↑k5 : Int) + 1) ∧ ((↑k5 : Int) + 1) ≤ IntKind.max .i64)]))) (by kernel_rfl) (by kernel_rfl) (allOk_append.2 ⟨(ok1 (decide_eq_true c10)), (allOk_append.2 ⟨(tollwayref01_Before_L1_p4q a_0 b_1 k5 c11 x12 h13 x14 h15), ⟨(not_f (beq_t c16)), ok1 h17⟩⟩)⟩)
theorem tollwayref01_Before_L1_1 (a_0 : (List UInt8)) (b_1 : (List UInt8)) (k5 : Nat) (c10 : (↑k5 : Int) < (↑a_0.length : Int)) (c11 : (↑k5 : Int) < (↑b_1.length : Int)) (x12 : UInt8) (h13 : a_0[k5]? = some x12) (x14 : UInt8) (h15 : b_1[k5]? = some x14) (c16 : ¬ ((x12.toNat : Int) = (x14.toNat : Int))) : Does Tryz.prog GT 0 (bodyAt Tryz.prog 322 [1, 0, 1, 0, 0]) (tollwayref01_Before_L1_H a_0 b_1 k5) .ret (S 37 [(4, .bool (decide ((x12.toNat : Int) < (x14.toNat : Int))))] []) :=
  Does.of_viewM 0 400 ((tollwayref01_Before_L1_h1) ++ ((tollwayref01_Before_L1_h2) ++ ((tollwayref01_Before_L1_h3 k5 x12 x14) ++ ((.br true) :: (cs 2 ((.op none (.i k5)) :: (.trp (.eqt (.t 27) (.int .u8 (x12.toNat : Int)))) :: (cs 2 [.op none (.i k5), .trp (.eqt (.t 30) (.int .u8 (x14.toNat : Int))), .op none .a, .op none .c]))))))) [] (ps := ([((decide ((↑k5 : Int) < (↑a_0.length : Int))) = true)] ++ ((tollwayref01_Before_L1_p4 a_0 b_1 k5 x12 x14) ++ [((!((x12.toNat : Int) == (x14.toNat : Int))) = true), ((↑k5 : Int) = ((k5 : Nat) : Int) ∧ k5 < a_0.length), ((.int .u8 ((List.getD a_0 k5 0).toNat : Int) : AV) = .int .u8 (x12.toNat : Int)), ((↑k5 : Int) = ((k5 : Nat) : Int) ∧ k5 < b_1.length), ((.int .u8 ((List.getD b_1 k5 0).toNat : Int) : AV) = .int .u8 (x14.toNat : Int))]))) (by kernel_rfl) (by kernel_rfl) (allOk_append.2 ⟨(ok1 (decide_eq_true c10)), (allOk_append.2 ⟨(tollwayref01_Before_L1_p4q a_0 b_1 k5 c11 x12 h13 x14 h15), ⟨(not_t (beq_f c16)), ⟨rfl, get_lt h13⟩, (getD_u8 h13), ⟨rfl, get_lt h15⟩, ok1 (getD_u8 h15)⟩⟩)⟩)
theorem tollwayref01_Before_L1_2 (a_0 : (List UInt8)) (b_1 : (List UInt8)) (k5 : Nat) (c10 : (↑k5 : Int) < (↑a_0.length : Int)) (c11 : ¬ ((↑k5 : Int) < (↑b_1.length : Int))) : Does Tryz.prog GT 0 (bodyAt Tryz.prog 322 [1, 0, 1, 0, 0]) (tollwayref01_Before_L1_H a_0 b_1 k5) (.exit 0) (S 37 [(0, .str a_0), (1, .str b_1)] []) :=
  Does.of_viewM 0 400 ((tollwayref01_Before_L1_h1) ++ ((tollwayref01_Before_L1_h2) ++ [.br false])) [] (ps := ([((decide ((↑k5 : Int) < (↑a_0.length : Int))) = true)] ++ [((decide ((↑k5 : Int) < (↑b_1.length : Int))) = false)])) (by kernel_rfl) (by kernel_rfl) (allOk_append.2 ⟨(ok1 (decide_eq_true c10)), (ok1 (decide_eq_false c11))⟩)
theorem tollwayref01_Before_L1_3 (a_0 : (List UInt8)) (b_1 : (List UInt8)) (k5 : Nat) (c10 : ¬ ((↑k5 : Int) < (↑a_0.length : Int))) : Does Tryz.prog GT 0 (bodyAt Tryz.prog 322 [1, 0, 1, 0, 0]) (tollwayref01_Before_L1_H a_0 b_1 k5) (.exit 0) (S 37 [(0, .str a_0), (1, .str b_1)] []) :=
  Does.of_viewM 0 400 ((tollwayref01_Before_L1_h1) ++ ((.op (some false) .c) :: (cs 4 [.br false]))) [] (ps := [((decide ((↑k5 : Int) < (↑a_0.length : Int))) = false), (false = false)]) (by kernel_rfl) (by kernel_rfl) ⟨(decide_eq_false c10), ok1 rfl⟩
def tollwayref01_Before_L1_X (a_0 : (List UInt8)) (b_1 : (List UInt8)) : (Bool ⊕ Unit) → AEx := fun q => match q with | Sum.inl o => .ret | Sum.inr (o) => (.exit 0)
def tollwayref01_Before_L1_E (a_0 : (List UInt8)) (b_1 : (List UInt8)) : (Bool ⊕ Unit) → St := fun q => match q with | Sum.inl o => S 37 [(4, .bool o)] [] | Sum.inr (o) => S 37 [(0, .str a_0), (1, .str b_1)] []
theorem tollwayref01_Before_L1_does (a_0 : (List UInt8)) (b_1 : (List UInt8)) {s : Nat} {r : Bool ⊕ Unit} (h : lp (tollwayref01_Before_L1_step a_0 b_1) s = some r) : Does Tryz.prog GT 0 (.loop (bodyAt Tryz.prog 322 [1, 0, 1, 0, 0])) (tollwayref01_Before_L1_H a_0 b_1 s) (tollwayref01_Before_L1_X a_0 b_1 r) (tollwayref01_Before_L1_E a_0 b_1 r) := by
  refine Does.lp (H := tollwayref01_Before_L1_H a_0 b_1) (X := tollwayref01_Before_L1_X a_0 b_1) (E := tollwayref01_Before_L1_E a_0 b_1) (fun s s2 h => ?_) (fun s r h => ?_) h
  · revert h; revert s; intro k5 h
    unfold tollwayref01_Before_L1_step at h
    try dsimp only at h
    rcases ite_some h with ⟨c10, h⟩ | ⟨c10, h⟩
    · rcases ite_some h with ⟨c11, h⟩ | ⟨c11, h⟩
      · obtain ⟨x12, h13, h⟩ := bind_some h
        obtain ⟨x14, h15, h⟩ := bind_some h
        rcases ite_some h with ⟨c16, h⟩ | ⟨c16, h⟩
        · obtain ⟨h17, h⟩ := guard_some h
          simp only [Option.some.injEq, Sum.inl.injEq] at h
          subst h
          have hq := tollwayref01_Before_L1_0 a_0 b_1 k5 c10 c11 x12 h13 x14 h15 c16 h17
          first | exact hq | exact Eq.mp (by simp only [tollwayref01_Before_L1_H, List.length_set] <;> rfl) hq
        · simp at h
      · simp at h
    · simp at h
  · revert h; revert s; intro k5 h
    unfold tollwayref01_Before_L1_step at h
    try dsimp only at h
    rcases ite_some h with ⟨c10, h⟩ | ⟨c10, h⟩
    · rcases ite_some h with ⟨c11, h⟩ | ⟨c11, h⟩
      · obtain ⟨x12, h13, h⟩ := bind_some h
        obtain ⟨x14, h15, h⟩ := bind_some h
        rcases ite_some h with ⟨c16, h⟩ | ⟨c16, h⟩
        · obtain ⟨h17, h⟩ := guard_some h
          simp at h
        · simp only [Option.some.injEq, Sum.inr.injEq] at h
          subst h
          exact ⟨tollwayref01_Before_L1_1 a_0 b_1 k5 c10 c11 x12 h13 x14 h15 c16, by intro q; cases q⟩
      · simp only [Option.some.injEq, Sum.inr.injEq] at h
        subst h
        exact ⟨tollwayref01_Before_L1_2 a_0 b_1 k5 c10 c11, by intro q; cases q⟩
    · simp only [Option.some.injEq, Sum.inr.injEq] at h
      subst h
      exact ⟨tollwayref01_Before_L1_3 a_0 b_1 k5 c10, by intro q; cases q⟩
noncomputable def tollwayref01_Before (a_0 : (List UInt8)) (b_1 : (List UInt8)) : Option Bool :=
  (lp (tollwayref01_Before_L1_step a_0 b_1) (0 : Nat)).bind fun qq => match qq with
  | Sum.inl o1 =>
    some o1
  | Sum.inr (o1) =>
    some (decide ((↑a_0.length : Int) < (↑b_1.length : Int)))
def tollwayref01_Before_p1 (a_0 : (List UInt8)) (b_1 : (List UInt8)) : List Prop := [((.str a_0 : AV) = .str a_0), ((.str b_1 : AV) = .str b_1), ((.int .i64 0 : AV) = .int .i64 (↑(0 : Nat) : Int))]
theorem tollwayref01_Before_p1q (a_0 : (List UInt8)) (b_1 : (List UInt8)) : allOk (tollwayref01_Before_p1 a_0 b_1) := ⟨rfl, rfl, ok1 rfl⟩
theorem tollwayref01_Before_0 (a_0 : (List UInt8)) (b_1 : (List UInt8)) (o1 : Bool) (hl1 : lp (tollwayref01_Before_L1_step a_0 b_1) (0 : Nat) = some (Sum.inl o1)) : Ret Tryz.prog GT 322 [.str a_0, .str b_1] (.bool o1) [] :=
  Ret.of_view 400 ((cs 2 []) ++ [.fcut 0 .ret [(4, .bool o1)] [] [] [(0, .str a_0), (1, .str b_1), (5, .int .i64 (↑(0 : Nat) : Int))] []]) [] (ps := ((tollwayref01_Before_p1 a_0 b_1) ++ [(Does Tryz.prog GT 0 (.loop (bodyAt Tryz.prog 322 [1, 0, 1, 0, 0])) (S 37 [(0, .str a_0), (1, .str b_1), (5, .int .i64 (↑(0 : Nat) : Int))] []) .ret (S 37 [(4, .bool o1)] []))])) (by kernel_rfl) (by kernel_rfl) (allOk_append.2 ⟨(tollwayref01_Before_p1q a_0 b_1), (ok1 (tollwayref01_Before_L1_does a_0 b_1 (s := (0 : Nat)) (r := Sum.inl o1) hl1))⟩)
theorem tollwayref01_Before_1 (a_0 : (List UInt8)) (b_1 : (List UInt8)) (o1 : Unit) (hl1 : lp (tollwayref01_Before_L1_step a_0 b_1) (0 : Nat) = some (Sum.inr (o1))) : Ret Tryz.prog GT 322 [.str a_0, .str b_1] (.bool (decide ((↑a_0.length : Int) < (↑b_1.length : Int)))) [] :=
  Ret.of_view 400 ((cs 2 []) ++ ((.fcut 0 (.exit 0) [(0, .str a_0), (1, .str b_1)] [] [] [(0, .str a_0), (1, .str b_1), (5, .int .i64 (↑(0 : Nat) : Int))] []) :: (cs 4 [.op none .a, .op none .c]))) [] (ps := ((tollwayref01_Before_p1 a_0 b_1) ++ [(Does Tryz.prog GT 0 (.loop (bodyAt Tryz.prog 322 [1, 0, 1, 0, 0])) (S 37 [(0, .str a_0), (1, .str b_1), (5, .int .i64 (↑(0 : Nat) : Int))] []) (.exit 0) (S 37 [(0, .str a_0), (1, .str b_1)] []))])) (by kernel_rfl) (by kernel_rfl) (allOk_append.2 ⟨(tollwayref01_Before_p1q a_0 b_1), (ok1 (tollwayref01_Before_L1_does a_0 b_1 (s := (0 : Nat)) (r := Sum.inr (o1)) hl1))⟩)
theorem tollwayref01_Before_ret (a_0 : (List UInt8)) (b_1 : (List UInt8)) (r : Bool) (h : tollwayref01_Before a_0 b_1 = some r) : Ret Tryz.prog GT 322 [.str a_0, .str b_1] (.bool r) [] := by
  unfold tollwayref01_Before at h
  obtain ⟨qq, hl1, h⟩ := bind_some h
  rcases qq with o1 | o1
  · dsimp only at h
    simp only [Option.some.injEq] at h
    subst h
    exact tollwayref01_Before_0 a_0 b_1 o1 hl1
  · dsimp only at h
    simp only [Option.some.injEq] at h
    subst h
    exact tollwayref01_Before_1 a_0 b_1 o1 hl1
noncomputable def tollwayref17_numbers (a_0 : Int) (b_1 : Int) : Option Int :=
  if a_0 < b_1 then
    some (-1)
  else
    if a_0 > b_1 then
      some 1
    else
      some 0
def tollwayref17_numbers_h1  : List CH := (cs 3 [.op none .a])
def tollwayref17_numbers_h2  : List CH := ((.br false) :: (cs 2 [.op none .a]))
theorem tollwayref17_numbers_0 (a_0 : Int) (b_1 : Int) (c1 : a_0 < b_1) : Ret Tryz.prog GT 232 [.int .i64 a_0, .int .i64 b_1] (.int .i64 (-1)) [] :=
  Ret.of_view 400 ((tollwayref17_numbers_h1) ++ [.br true, .op none .c]) [] (ps := [((decide (a_0 < b_1)) = true)]) (by kernel_rfl) (by kernel_rfl) (ok1 (decide_eq_true c1))
theorem tollwayref17_numbers_1 (a_0 : Int) (b_1 : Int) (c1 : ¬ (a_0 < b_1)) (c2 : a_0 > b_1) : Ret Tryz.prog GT 232 [.int .i64 a_0, .int .i64 b_1] (.int .i64 1) [] :=
  Ret.of_view 400 ((tollwayref17_numbers_h1) ++ ((tollwayref17_numbers_h2) ++ [.br true, .op none .c])) [] (ps := ([((decide (a_0 < b_1)) = false)] ++ [((decide (a_0 > b_1)) = true)])) (by kernel_rfl) (by kernel_rfl) (allOk_append.2 ⟨(ok1 (decide_eq_false c1)), (ok1 (decide_eq_true c2))⟩)
theorem tollwayref17_numbers_2 (a_0 : Int) (b_1 : Int) (c1 : ¬ (a_0 < b_1)) (c2 : ¬ (a_0 > b_1)) : Ret Tryz.prog GT 232 [.int .i64 a_0, .int .i64 b_1] (.int .i64 0) [] :=
  Ret.of_view 400 ((tollwayref17_numbers_h1) ++ ((tollwayref17_numbers_h2) ++ [.br false, .op none .c])) [] (ps := ([((decide (a_0 < b_1)) = false)] ++ [((decide (a_0 > b_1)) = false)])) (by kernel_rfl) (by kernel_rfl) (allOk_append.2 ⟨(ok1 (decide_eq_false c1)), (ok1 (decide_eq_false c2))⟩)
theorem tollwayref17_numbers_ret (a_0 : Int) (b_1 : Int) (r : Int) (h : tollwayref17_numbers a_0 b_1 = some r) : Ret Tryz.prog GT 232 [.int .i64 a_0, .int .i64 b_1] (.int .i64 r) [] := by
  unfold tollwayref17_numbers at h
  rcases ite_some h with ⟨c1, h⟩ | ⟨c1, h⟩
  · simp only [Option.some.injEq] at h
    subst h
    exact tollwayref17_numbers_0 a_0 b_1 c1
  · rcases ite_some h with ⟨c2, h⟩ | ⟨c2, h⟩
    · simp only [Option.some.injEq] at h
      subst h
      exact tollwayref17_numbers_1 a_0 b_1 c1 c2
    · simp only [Option.some.injEq] at h
      subst h
      exact tollwayref17_numbers_2 a_0 b_1 c1 c2
noncomputable def tollwayref17_texts (a_0 : (List UInt8)) (b_1 : (List UInt8)) : Option Int :=
  if a_0 = b_1 then
    some 0
  else
    (tollwayref01_Before a_0 b_1).bind fun r2 =>
    if r2 = true then
      some (-1)
    else
      some 1
def tollwayref17_texts_h1  : List CH := (cs 3 [.op none .a])
def tollwayref17_texts_h2 (a_0 : (List UInt8)) (b_1 : (List UInt8)) (r2 : Bool) : List CH := ((.br false) :: (cs 2 [.ret none [.str a_0, .str b_1] (.bool r2) []]))
def tollwayref17_texts_p3 (a_0 : (List UInt8)) (b_1 : (List UInt8)) (r2 : Bool) : List Prop := [((a_0 == b_1) = false), ((.str a_0 : AV) = .str a_0), ((.str b_1 : AV) = .str b_1), (Ret Tryz.prog GT 322 [.str a_0, .str b_1] (.bool r2) [])]
theorem tollwayref17_texts_p3q (a_0 : (List UInt8)) (b_1 : (List UInt8)) (c1 : ¬ (a_0 = b_1)) (r2 : Bool) (h3 : tollwayref01_Before a_0 b_1 = some r2) : allOk (tollwayref17_texts_p3 a_0 b_1 r2) := ⟨(beq_f c1), rfl, rfl, ok1 (tollwayref01_Before_ret a_0 b_1 r2 h3)⟩
theorem tollwayref17_texts_0 (a_0 : (List UInt8)) (b_1 : (List UInt8)) (c1 : a_0 = b_1) : Ret Tryz.prog GT 233 [.str a_0, .str b_1] (.int .i64 0) [] :=
  Ret.of_view 400 ((tollwayref17_texts_h1) ++ [.br true, .op none .c]) [] (ps := [((a_0 == b_1) = true)]) (by kernel_rfl) (by kernel_rfl) (ok1 (beq_t c1))
theorem tollwayref17_texts_1 (a_0 : (List UInt8)) (b_1 : (List UInt8)) (c1 : ¬ (a_0 = b_1)) (r2 : Bool) (h3 : tollwayref01_Before a_0 b_1 = some r2) (c4 : r2 = true) : Ret Tryz.prog GT 233 [.str a_0, .str b_1] (.int .i64 (-1)) [] :=
  Ret.of_view 400 ((tollwayref17_texts_h1) ++ ((tollwayref17_texts_h2 a_0 b_1 r2) ++ [.br true, .op none .c])) [] (ps := ((tollwayref17_texts_p3 a_0 b_1 r2) ++ [(r2 = true)])) (by kernel_rfl) (by kernel_rfl) (allOk_append.2 ⟨(tollwayref17_texts_p3q a_0 b_1 c1 r2 h3), (ok1 c4)⟩)
theorem tollwayref17_texts_2 (a_0 : (List UInt8)) (b_1 : (List UInt8)) (c1 : ¬ (a_0 = b_1)) (r2 : Bool) (h3 : tollwayref01_Before a_0 b_1 = some r2) (c4 : ¬ (r2 = true)) : Ret Tryz.prog GT 233 [.str a_0, .str b_1] (.int .i64 1) [] :=
  Ret.of_view 400 ((tollwayref17_texts_h1) ++ ((tollwayref17_texts_h2 a_0 b_1 r2) ++ [.br false, .op none .c])) [] (ps := ((tollwayref17_texts_p3 a_0 b_1 r2) ++ [(r2 = false)])) (by kernel_rfl) (by kernel_rfl) (allOk_append.2 ⟨(tollwayref17_texts_p3q a_0 b_1 c1 r2 h3), (ok1 (eq_false_of_ne_true c4))⟩)
theorem tollwayref17_texts_ret (a_0 : (List UInt8)) (b_1 : (List UInt8)) (r : Int) (h : tollwayref17_texts a_0 b_1 = some r) : Ret Tryz.prog GT 233 [.str a_0, .str b_1] (.int .i64 r) [] := by
  unfold tollwayref17_texts at h
  rcases ite_some h with ⟨c1, h⟩ | ⟨c1, h⟩
  · simp only [Option.some.injEq] at h
    subst h
    exact tollwayref17_texts_0 a_0 b_1 c1
  · obtain ⟨r2, h3, h⟩ := bind_some h
    rcases ite_some h with ⟨c4, h⟩ | ⟨c4, h⟩
    · simp only [Option.some.injEq] at h
      subst h
      exact tollwayref17_texts_1 a_0 b_1 c1 r2 h3 c4
    · simp only [Option.some.injEq] at h
      subst h
      exact tollwayref17_texts_2 a_0 b_1 c1 r2 h3 c4
noncomputable def tollwayref17_Sources (a_0 : Tapi_Source) (b_1 : Tapi_Source) : Option Int :=
  if a_0.Device = b_1.Device then
    (tollwayref17_numbers a_0.Seq b_1.Seq).bind fun r2 =>
    some r2
  else
    (tollwayref17_texts a_0.Device b_1.Device).bind fun r4 =>
    some r4
def tollwayref17_Sources_h1  : List CH := (cs 7 [.op none .a])
theorem tollwayref17_Sources_0 (a_0 : Tapi_Source) (b_1 : Tapi_Source) (c1 : a_0.Device = b_1.Device) (r2 : Int) (h3 : tollwayref17_numbers a_0.Seq b_1.Seq = some r2) : Ret Tryz.prog GT 323 [.agg (Tapi_Source.enc a_0), .agg (Tapi_Source.enc b_1)] (.int .i64 r2) [] :=
  Ret.of_view 400 ((tollwayref17_Sources_h1) ++ ((.br false) :: (cs 4 [.ret none [.int .i64 a_0.Seq, .int .i64 b_1.Seq] (.int .i64 r2) [], .op none .c]))) [] (ps := [((!(a_0.Device == b_1.Device)) = false), ((.int .i64 a_0.Seq : AV) = .int .i64 a_0.Seq), ((.int .i64 b_1.Seq : AV) = .int .i64 b_1.Seq), (Ret Tryz.prog GT 232 [.int .i64 a_0.Seq, .int .i64 b_1.Seq] (.int .i64 r2) [])]) (by kernel_rfl) (by kernel_rfl) ⟨(not_f (beq_t c1)), rfl, rfl, ok1 (tollwayref17_numbers_ret a_0.Seq b_1.Seq r2 h3)⟩
theorem tollwayref17_Sources_1 (a_0 : Tapi_Source) (b_1 : Tapi_Source) (c1 : ¬ (a_0.Device = b_1.Device)) (r4 : Int) (h5 : tollwayref17_texts a_0.Device b_1.Device = some r4) : Ret Tryz.prog GT 323 [.agg (Tapi_Source.enc a_0), .agg (Tapi_Source.enc b_1)] (.int .i64 r4) [] :=
  Ret.of_view 400 ((tollwayref17_Sources_h1) ++ ((.br true) :: (cs 4 [.ret none [.str a_0.Device, .str b_1.Device] (.int .i64 r4) [], .op none .c]))) [] (ps := [((!(a_0.Device == b_1.Device)) = true), ((.str a_0.Device : AV) = .str a_0.Device), ((.str b_1.Device : AV) = .str b_1.Device), (Ret Tryz.prog GT 233 [.str a_0.Device, .str b_1.Device] (.int .i64 r4) [])]) (by kernel_rfl) (by kernel_rfl) ⟨(not_t (beq_f c1)), rfl, rfl, ok1 (tollwayref17_texts_ret a_0.Device b_1.Device r4 h5)⟩
theorem tollwayref17_Sources_ret (a_0 : Tapi_Source) (b_1 : Tapi_Source) (r : Int) (h : tollwayref17_Sources a_0 b_1 = some r) : Ret Tryz.prog GT 323 [.agg (Tapi_Source.enc a_0), .agg (Tapi_Source.enc b_1)] (.int .i64 r) [] := by
  unfold tollwayref17_Sources at h
  rcases ite_some h with ⟨c1, h⟩ | ⟨c1, h⟩
  · obtain ⟨r2, h3, h⟩ := bind_some h
    simp only [Option.some.injEq] at h
    subst h
    exact tollwayref17_Sources_0 a_0 b_1 c1 r2 h3
  · obtain ⟨r4, h5, h⟩ := bind_some h
    simp only [Option.some.injEq] at h
    subst h
    exact tollwayref17_Sources_1 a_0 b_1 c1 r4 h5
noncomputable def tollwayref17_lists_L1_step (a_0 : (List Tapi_Source)) (b_1 : (List Tapi_Source)) : Nat → Option (Nat ⊕ (Int ⊕ Unit)) := fun k5 =>
  if (↑k5 : Int) < (↑a_0.length : Int) then
    if (↑k5 : Int) < (↑b_1.length : Int) then
      (a_0[k5]?).bind fun x14 =>
      (b_1[k5]?).bind fun x16 =>
      (tollwayref17_Sources x14 x16).bind fun r18 =>
      if r18 = (0 : Int) then
        if InR .i64 ((↑k5 : Int) + 1) then
          some (Sum.inl (k5 + 1))
        else none
      else
        some (Sum.inr (Sum.inl r18))
    else
      some (Sum.inr (Sum.inr (())))
  else
    some (Sum.inr (Sum.inr (())))
def tollwayref17_lists_L1_H (a_0 : (List Tapi_Source)) (b_1 : (List Tapi_Source)) : Nat → St := fun (s : Nat) => S 36 [(0, .lst (fl Tapi_Source.enc a_0) a_0.length), (1, .lst (fl Tapi_Source.enc b_1) b_1.length), (5, .int .i64 (↑s : Int))] []
def tollwayref17_lists_L1_h1  : List CH := (cs 3 [.op none .a, .op none .c])
def tollwayref17_lists_L1_h2  : List CH := ((.op (some true) .c) :: (cs 2 [.op none .a, .op none .c]))
def tollwayref17_lists_L1_h3 (k5 : Nat) (x14 : Tapi_Source) (x16 : Tapi_Source) (r18 : Int) : List CH := ((.br true) :: (cs 2 ((.op none (.i k5)) :: (.op none (.v [.str x14.Device, .int .i64 x14.Seq])) :: (cs 2 ((.op none (.i k5)) :: (.op none (.v [.str x16.Device, .int .i64 x16.Seq])) :: (.ret none [.agg (Tapi_Source.enc x14), .agg (Tapi_Source.enc x16)] (.int .i64 r18) []) :: (cs 2 [.op none .a]))))))
def tollwayref17_lists_L1_p4 (a_0 : (List Tapi_Source)) (b_1 : (List Tapi_Source)) (k5 : Nat) (x14 : Tapi_Source) (x16 : Tapi_Source) (r18 : Int) : List Prop := [((decide ((↑k5 : Int) < (↑b_1.length : Int))) = true), ((↑k5 : Int) = ((k5 : Nat) : Int) ∧ k5 < a_0.length), ((fl Tapi_Source.enc a_0) ≠ []), (sub (fl Tapi_Source.enc a_0) (k5 * 2) 2 = [.str x14.Device, .int .i64 x14.Seq]), ((↑k5 : Int) = ((k5 : Nat) : Int) ∧ k5 < b_1.length), ((fl Tapi_Source.enc b_1) ≠ []), (sub (fl Tapi_Source.enc b_1) (k5 * 2) 2 = [.str x16.Device, .int .i64 x16.Seq]), ((.agg (Tapi_Source.enc x14) : AV) = .agg (Tapi_Source.enc x14)), ((.agg (Tapi_Source.enc x16) : AV) = .agg (Tapi_Source.enc x16)), (Ret Tryz.prog GT 323 [.agg (Tapi_Source.enc x14), .agg (Tapi_Source.enc x16)] (.int .i64 r18) [])]
theorem tollwayref17_lists_L1_p4q (a_0 : (List Tapi_Source)) (b_1 : (List Tapi_Source)) (k5 : Nat) (c13 : (↑k5 : Int) < (↑b_1.length : Int)) (x14 : Tapi_Source) (h15 : a_0[k5]? = some x14) (x16 : Tapi_Source) (h17 : b_1[k5]? = some x16) (r18 : Int) (h19 : tollwayref17_Sources x14 x16 = some r18) : allOk (tollwayref17_lists_L1_p4 a_0 b_1 k5 x14 x16 r18) := ⟨(decide_eq_true c13), ⟨rfl, get_lt h15⟩, (fl_ne (f := Tapi_Source.enc) (z := 1) (fun _ => rfl) h15), (fl_sub0 (f := Tapi_Source.enc) (z := 2) (j := k5) (fun _ => rfl) h15 rfl), ⟨rfl, get_lt h17⟩, (fl_ne (f := Tapi_Source.enc) (z := 1) (fun _ => rfl) h17), (fl_sub0 (f := Tapi_Source.enc) (z := 2) (j := k5) (fun _ => rfl) h17 rfl), rfl, rfl, ok1 (tollwayref17_Sources_ret x14 x16 r18 h19)⟩
theorem tollwayref17_lists_L1_0 (a_0 : (List Tapi_Source)) (b_1 : (List Tapi_Source)) (k5 : Nat) (c12 : (↑k5 : Int) < (↑a_0.length : Int)) (c13 : (↑k5 : Int) < (↑b_1.length : Int)) (x14 : Tapi_Source) (h15 : a_0[k5]? = some x14) (x16 : Tapi_Source) (h17 : b_1[k5]? = some x16) (r18 : Int) (h19 : tollwayref17_Sources x14 x16 = some r18) (c20 : r18 = (0 : Int)) (h21 : InR .i64 ((↑k5 : Int) + 1)) : Does Tryz.prog GT 0 (bodyAt Tryz.prog 234 [1, 0, 1, 0, 0]) (tollwayref17_lists_L1_H a_0 b_1 k5) .normal (S 36 [(0, .lst (fl Tapi_Source.enc a_0) a_0.length), (1, .lst (fl Tapi_Source.enc b_1) b_1.length), (5, .int .i64 ((↑k5 : Int) + 1))] []) :=
  Does.of_viewM 0 400 ((tollwayref17_lists_L1_h1) ++ ((tollwayref17_lists_L1_h2) ++ ((tollwayref17_lists_L1_h3 k5 x14 x16 r18) ++ [.br false, .op none .c, .op none .w, .op none .c]))) [] (ps := ([((decide ((↑k5 : Int) < (↑a_0.length : Int))) = true)] ++ ((tollwayref17_lists_L1_p4 a_0 b_1 k5 x14 x16 r18) ++ [((!(r18 == (0 : Int))) = false), (IntKind.min .i64 ≤ ((↑k5 : Int) + 1) ∧ ((↑k5 : Int) + 1) ≤ IntKind.max .i64)]))) (by kernel_rfl) (by kernel_rfl) (allOk_append.2 ⟨(ok1 (decide_eq_true c12)), (allOk_append.2 ⟨(tollwayref17_lists_L1_p4q a_0 b_1 k5 c13 x14 h15 x16 h17 r18 h19), ⟨(not_f (beq_t c20)), ok1 h21⟩⟩)⟩)
theorem tollwayref17_lists_L1_1 (a_0 : (List Tapi_Source)) (b_1 : (List Tapi_Source)) (k5 : Nat) (c12 : (↑k5 : Int) < (↑a_0.length : Int)) (c13 : (↑k5 : Int) < (↑b_1.length : Int)) (x14 : Tapi_Source) (h15 : a_0[k5]? = some x14) (x16 : Tapi_Source) (h17 : b_1[k5]? = some x16) (r18 : Int) (h19 : tollwayref17_Sources x14 x16 = some r18) (c20 : ¬ (r18 = (0 : Int))) : Does Tryz.prog GT 0 (bodyAt Tryz.prog 234 [1, 0, 1, 0, 0]) (tollwayref17_lists_L1_H a_0 b_1 k5) .ret (S 36 [(4, .int .i64 r18)] []) :=
  Does.of_viewM 0 400 ((tollwayref17_lists_L1_h1) ++ ((tollwayref17_lists_L1_h2) ++ ((tollwayref17_lists_L1_h3 k5 x14 x16 r18) ++ ((.br true) :: (cs 2 []))))) [] (ps := ([((decide ((↑k5 : Int) < (↑a_0.length : Int))) = true)] ++ ((tollwayref17_lists_L1_p4 a_0 b_1 k5 x14 x16 r18) ++ [((!(r18 == (0 : Int))) = true)]))) (by kernel_rfl) (by kernel_rfl) (allOk_append.2 ⟨(ok1 (decide_eq_true c12)), (allOk_append.2 ⟨(tollwayref17_lists_L1_p4q a_0 b_1 k5 c13 x14 h15 x16 h17 r18 h19), (ok1 (not_t (beq_f c20)))⟩)⟩)
theorem tollwayref17_lists_L1_2 (a_0 : (List Tapi_Source)) (b_1 : (List Tapi_Source)) (k5 : Nat) (c12 : (↑k5 : Int) < (↑a_0.length : Int)) (c13 : ¬ ((↑k5 : Int) < (↑b_1.length : Int))) : Does Tryz.prog GT 0 (bodyAt Tryz.prog 234 [1, 0, 1, 0, 0]) (tollwayref17_lists_L1_H a_0 b_1 k5) (.exit 0) (S 36 [(0, .lst (fl Tapi_Source.enc a_0) a_0.length), (1, .lst (fl Tapi_Source.enc b_1) b_1.length)] []) :=
  Does.of_viewM 0 400 ((tollwayref17_lists_L1_h1) ++ ((tollwayref17_lists_L1_h2) ++ [.br false])) [] (ps := ([((decide ((↑k5 : Int) < (↑a_0.length : Int))) = true)] ++ [((decide ((↑k5 : Int) < (↑b_1.length : Int))) = false)])) (by kernel_rfl) (by kernel_rfl) (allOk_append.2 ⟨(ok1 (decide_eq_true c12)), (ok1 (decide_eq_false c13))⟩)
theorem tollwayref17_lists_L1_3 (a_0 : (List Tapi_Source)) (b_1 : (List Tapi_Source)) (k5 : Nat) (c12 : ¬ ((↑k5 : Int) < (↑a_0.length : Int))) : Does Tryz.prog GT 0 (bodyAt Tryz.prog 234 [1, 0, 1, 0, 0]) (tollwayref17_lists_L1_H a_0 b_1 k5) (.exit 0) (S 36 [(0, .lst (fl Tapi_Source.enc a_0) a_0.length), (1, .lst (fl Tapi_Source.enc b_1) b_1.length)] []) :=
  Does.of_viewM 0 400 ((tollwayref17_lists_L1_h1) ++ ((.op (some false) .c) :: (cs 4 [.br false]))) [] (ps := [((decide ((↑k5 : Int) < (↑a_0.length : Int))) = false), (false = false)]) (by kernel_rfl) (by kernel_rfl) ⟨(decide_eq_false c12), ok1 rfl⟩
def tollwayref17_lists_L1_X (a_0 : (List Tapi_Source)) (b_1 : (List Tapi_Source)) : (Int ⊕ Unit) → AEx := fun q => match q with | Sum.inl o => .ret | Sum.inr (o) => (.exit 0)
def tollwayref17_lists_L1_E (a_0 : (List Tapi_Source)) (b_1 : (List Tapi_Source)) : (Int ⊕ Unit) → St := fun q => match q with | Sum.inl o => S 36 [(4, .int .i64 o)] [] | Sum.inr (o) => S 36 [(0, .lst (fl Tapi_Source.enc a_0) a_0.length), (1, .lst (fl Tapi_Source.enc b_1) b_1.length)] []
theorem tollwayref17_lists_L1_does (a_0 : (List Tapi_Source)) (b_1 : (List Tapi_Source)) {s : Nat} {r : Int ⊕ Unit} (h : lp (tollwayref17_lists_L1_step a_0 b_1) s = some r) : Does Tryz.prog GT 0 (.loop (bodyAt Tryz.prog 234 [1, 0, 1, 0, 0])) (tollwayref17_lists_L1_H a_0 b_1 s) (tollwayref17_lists_L1_X a_0 b_1 r) (tollwayref17_lists_L1_E a_0 b_1 r) := by
  refine Does.lp (H := tollwayref17_lists_L1_H a_0 b_1) (X := tollwayref17_lists_L1_X a_0 b_1) (E := tollwayref17_lists_L1_E a_0 b_1) (fun s s2 h => ?_) (fun s r h => ?_) h
  · revert h; revert s; intro k5 h
    unfold tollwayref17_lists_L1_step at h
    try dsimp only at h
    rcases ite_some h with ⟨c12, h⟩ | ⟨c12, h⟩
    · rcases ite_some h with ⟨c13, h⟩ | ⟨c13, h⟩
      · obtain ⟨x14, h15, h⟩ := bind_some h
        obtain ⟨x16, h17, h⟩ := bind_some h
        obtain ⟨r18, h19, h⟩ := bind_some h
        rcases ite_some h with ⟨c20, h⟩ | ⟨c20, h⟩
        · obtain ⟨h21, h⟩ := guard_some h
          simp only [Option.some.injEq, Sum.inl.injEq] at h
          subst h
          have hq := tollwayref17_lists_L1_0 a_0 b_1 k5 c12 c13 x14 h15 x16 h17 r18 h19 c20 h21
          first | exact hq | exact Eq.mp (by simp only [tollwayref17_lists_L1_H, List.length_set] <;> rfl) hq
        · simp at h
      · simp at h
    · simp at h
  · revert h; revert s; intro k5 h
    unfold tollwayref17_lists_L1_step at h
    try dsimp only at h
    rcases ite_some h with ⟨c12, h⟩ | ⟨c12, h⟩
    · rcases ite_some h with ⟨c13, h⟩ | ⟨c13, h⟩
      · obtain ⟨x14, h15, h⟩ := bind_some h
        obtain ⟨x16, h17, h⟩ := bind_some h
        obtain ⟨r18, h19, h⟩ := bind_some h
        rcases ite_some h with ⟨c20, h⟩ | ⟨c20, h⟩
        · obtain ⟨h21, h⟩ := guard_some h
          simp at h
        · simp only [Option.some.injEq, Sum.inr.injEq] at h
          subst h
          exact ⟨tollwayref17_lists_L1_1 a_0 b_1 k5 c12 c13 x14 h15 x16 h17 r18 h19 c20, by intro q; cases q⟩
      · simp only [Option.some.injEq, Sum.inr.injEq] at h
        subst h
        exact ⟨tollwayref17_lists_L1_2 a_0 b_1 k5 c12 c13, by intro q; cases q⟩
    · simp only [Option.some.injEq, Sum.inr.injEq] at h
      subst h
      exact ⟨tollwayref17_lists_L1_3 a_0 b_1 k5 c12, by intro q; cases q⟩
noncomputable def tollwayref17_lists (a_0 : (List Tapi_Source)) (b_1 : (List Tapi_Source)) : Option Int :=
  (lp (tollwayref17_lists_L1_step a_0 b_1) (0 : Nat)).bind fun qq => match qq with
  | Sum.inl o1 =>
    some o1
  | Sum.inr (o1) =>
    (tollwayref17_numbers (↑a_0.length : Int) (↑b_1.length : Int)).bind fun r22 =>
    some r22
def tollwayref17_lists_p1 (a_0 : (List Tapi_Source)) (b_1 : (List Tapi_Source)) : List Prop := [((.lst (fl Tapi_Source.enc a_0) a_0.length : AV) = .lst (fl Tapi_Source.enc a_0) a_0.length), ((.lst (fl Tapi_Source.enc b_1) b_1.length : AV) = .lst (fl Tapi_Source.enc b_1) b_1.length), ((.int .i64 0 : AV) = .int .i64 (↑(0 : Nat) : Int))]
theorem tollwayref17_lists_p1q (a_0 : (List Tapi_Source)) (b_1 : (List Tapi_Source)) : allOk (tollwayref17_lists_p1 a_0 b_1) := ⟨rfl, rfl, ok1 rfl⟩
theorem tollwayref17_lists_0 (a_0 : (List Tapi_Source)) (b_1 : (List Tapi_Source)) (o1 : Int) (hl1 : lp (tollwayref17_lists_L1_step a_0 b_1) (0 : Nat) = some (Sum.inl o1)) : Ret Tryz.prog GT 234 [.lst (fl Tapi_Source.enc a_0) a_0.length, .lst (fl Tapi_Source.enc b_1) b_1.length] (.int .i64 o1) [] :=
  Ret.of_view 400 ((cs 2 []) ++ [.fcut 0 .ret [(4, .int .i64 o1)] [] [] [(0, .lst (fl Tapi_Source.enc a_0) a_0.length), (1, .lst (fl Tapi_Source.enc b_1) b_1.length), (5, .int .i64 (↑(0 : Nat) : Int))] []]) [] (ps := ((tollwayref17_lists_p1 a_0 b_1) ++ [(Does Tryz.prog GT 0 (.loop (bodyAt Tryz.prog 234 [1, 0, 1, 0, 0])) (S 36 [(0, .lst (fl Tapi_Source.enc a_0) a_0.length), (1, .lst (fl Tapi_Source.enc b_1) b_1.length), (5, .int .i64 (↑(0 : Nat) : Int))] []) .ret (S 36 [(4, .int .i64 o1)] []))])) (by kernel_rfl) (by kernel_rfl) (allOk_append.2 ⟨(tollwayref17_lists_p1q a_0 b_1), (ok1 (tollwayref17_lists_L1_does a_0 b_1 (s := (0 : Nat)) (r := Sum.inl o1) hl1))⟩)
theorem tollwayref17_lists_1 (a_0 : (List Tapi_Source)) (b_1 : (List Tapi_Source)) (o1 : Unit) (hl1 : lp (tollwayref17_lists_L1_step a_0 b_1) (0 : Nat) = some (Sum.inr (o1))) (r22 : Int) (h23 : tollwayref17_numbers (↑a_0.length : Int) (↑b_1.length : Int) = some r22) : Ret Tryz.prog GT 234 [.lst (fl Tapi_Source.enc a_0) a_0.length, .lst (fl Tapi_Source.enc b_1) b_1.length] (.int .i64 r22) [] :=
  Ret.of_view 400 ((cs 2 []) ++ ((.fcut 0 (.exit 0) [(0, .lst (fl Tapi_Source.enc a_0) a_0.length), (1, .lst (fl Tapi_Source.enc b_1) b_1.length)] [] [] [(0, .lst (fl Tapi_Source.enc a_0) a_0.length), (1, .lst (fl Tapi_Source.enc b_1) b_1.length), (5, .int .i64 (↑(0 : Nat) : Int))] []) :: (cs 4 [.ret none [.int .i64 (↑a_0.length : Int), .int .i64 (↑b_1.length : Int)] (.int .i64 r22) [], .op none .c]))) [] (ps := ((tollwayref17_lists_p1 a_0 b_1) ++ [(Does Tryz.prog GT 0 (.loop (bodyAt Tryz.prog 234 [1, 0, 1, 0, 0])) (S 36 [(0, .lst (fl Tapi_Source.enc a_0) a_0.length), (1, .lst (fl Tapi_Source.enc b_1) b_1.length), (5, .int .i64 (↑(0 : Nat) : Int))] []) (.exit 0) (S 36 [(0, .lst (fl Tapi_Source.enc a_0) a_0.length), (1, .lst (fl Tapi_Source.enc b_1) b_1.length)] [])), ((.int .i64 (↑a_0.length : Int) : AV) = .int .i64 (↑a_0.length : Int)), ((.int .i64 (↑b_1.length : Int) : AV) = .int .i64 (↑b_1.length : Int)), (Ret Tryz.prog GT 232 [.int .i64 (↑a_0.length : Int), .int .i64 (↑b_1.length : Int)] (.int .i64 r22) [])])) (by kernel_rfl) (by kernel_rfl) (allOk_append.2 ⟨(tollwayref17_lists_p1q a_0 b_1), ⟨(tollwayref17_lists_L1_does a_0 b_1 (s := (0 : Nat)) (r := Sum.inr (o1)) hl1), rfl, rfl, ok1 (tollwayref17_numbers_ret (↑a_0.length : Int) (↑b_1.length : Int) r22 h23)⟩⟩)
theorem tollwayref17_lists_ret (a_0 : (List Tapi_Source)) (b_1 : (List Tapi_Source)) (r : Int) (h : tollwayref17_lists a_0 b_1 = some r) : Ret Tryz.prog GT 234 [.lst (fl Tapi_Source.enc a_0) a_0.length, .lst (fl Tapi_Source.enc b_1) b_1.length] (.int .i64 r) [] := by
  unfold tollwayref17_lists at h
  obtain ⟨qq, hl1, h⟩ := bind_some h
  rcases qq with o1 | o1
  · dsimp only at h
    simp only [Option.some.injEq] at h
    subst h
    exact tollwayref17_lists_0 a_0 b_1 o1 hl1
  · dsimp only at h
    obtain ⟨r22, h23, h⟩ := bind_some h
    simp only [Option.some.injEq] at h
    subst h
    exact tollwayref17_lists_1 a_0 b_1 o1 hl1 r22 h23
noncomputable def tollwayref17_Compare_L17_step  : (Nat × (List Int)) → Option ((Nat × (List Int)) ⊕ ((Int × (List Int)) ⊕ (List Int)))
  | (k6, b2) =>
    if (↑k6 : Int) < (↑b2.length : Int) then
      (b2[k6]?).bind fun x30 =>
      if x30 = (0 : Int) then
        if InR .i64 ((↑k6 : Int) + 1) then
          some (Sum.inl ((k6 + 1), b2))
        else none
      else
        some (Sum.inr (Sum.inl (x30, b2)))
    else
      some (Sum.inr (Sum.inr (b2)))
def tollwayref17_Compare_L17_H  : (Nat × (List Int)) → St := fun (s : (Nat × (List Int))) => S 63 [(5, .sl 0 0 s.2.length s.2.length true 1), (6, .int .i64 (↑s.1 : Int))] [(bT (fl e_i64 s.2) 3)]
def tollwayref17_Compare_L17_h1  : List CH := (cs 3 [.op none .a])
def tollwayref17_Compare_L17_h2 (k6 : Nat) (x30 : Int) : List CH := ((.br true) :: (cs 2 [.op none (.i k6), .op none (.v [.int .i64 x30]), .op none .a]))
def tollwayref17_Compare_L17_p3 (k6 : Nat) (b2 : (List Int)) (x30 : Int) : List Prop := [((decide ((↑k6 : Int) < (↑b2.length : Int))) = true), ((↑k6 : Int) = ((k6 : Nat) : Int) ∧ k6 < b2.length), (sub (fl e_i64 b2) k6 1 = [.int .i64 x30])]
theorem tollwayref17_Compare_L17_p3q (k6 : Nat) (b2 : (List Int)) (c29 : (↑k6 : Int) < (↑b2.length : Int)) (x30 : Int) (h31 : b2[k6]? = some x30) : allOk (tollwayref17_Compare_L17_p3 k6 b2 x30) := ⟨(decide_eq_true c29), ⟨rfl, get_lt h31⟩, ok1 (fl_sub1 (f := e_i64) (fun _ => rfl) h31 rfl)⟩
theorem tollwayref17_Compare_L17_0  (k6 : Nat) (b2 : (List Int)) (c29 : (↑k6 : Int) < (↑b2.length : Int)) (x30 : Int) (h31 : b2[k6]? = some x30) (c32 : x30 = (0 : Int)) (h33 : InR .i64 ((↑k6 : Int) + 1)) : Does Tryz.prog GT 1 (bodyAt Tryz.prog 163 [1, 1, 0, 1, 0, 0]) (tollwayref17_Compare_L17_H  (k6, b2)) .normal (S 63 [(5, .sl 0 0 b2.length b2.length true 1), (6, .int .i64 ((↑k6 : Int) + 1))] [(bT (fl e_i64 b2) 3)]) :=
  Does.of_viewM 1 400 ((tollwayref17_Compare_L17_h1) ++ ((tollwayref17_Compare_L17_h2 k6 x30) ++ [.br false, .op none .c, .op none .w, .op none .c])) [0] (ps := ((tollwayref17_Compare_L17_p3 k6 b2 x30) ++ [((!(x30 == (0 : Int))) = false), (IntKind.min .i64 ≤ ((↑k6 : Int) + 1) ∧ ((↑k6 : Int) + 1) ≤ IntKind.max .i64)])) (by kernel_rfl) (by kernel_rfl) (allOk_append.2 ⟨(tollwayref17_Compare_L17_p3q k6 b2 c29 x30 h31), ⟨(not_f (beq_t c32)), ok1 h33⟩⟩)
theorem tollwayref17_Compare_L17_1  (k6 : Nat) (b2 : (List Int)) (c29 : (↑k6 : Int) < (↑b2.length : Int)) (x30 : Int) (h31 : b2[k6]? = some x30) (c32 : ¬ (x30 = (0 : Int))) : Does Tryz.prog GT 1 (bodyAt Tryz.prog 163 [1, 1, 0, 1, 0, 0]) (tollwayref17_Compare_L17_H  (k6, b2)) .ret (S 63 [(4, .int .i64 x30)] [(bT (fl e_i64 b2) 3)]) :=
  Does.of_viewM 1 400 ((tollwayref17_Compare_L17_h1) ++ ((tollwayref17_Compare_L17_h2 k6 x30) ++ ((.br true) :: (cs 2 [.op none (.i k6), .op none (.v [.int .i64 x30]), .op none .c])))) [0] (ps := ((tollwayref17_Compare_L17_p3 k6 b2 x30) ++ [((!(x30 == (0 : Int))) = true), ((↑k6 : Int) = ((k6 : Nat) : Int) ∧ k6 < b2.length), (sub (fl e_i64 b2) k6 1 = [.int .i64 x30])])) (by kernel_rfl) (by kernel_rfl) (allOk_append.2 ⟨(tollwayref17_Compare_L17_p3q k6 b2 c29 x30 h31), ⟨(not_t (beq_f c32)), ⟨rfl, get_lt h31⟩, ok1 (fl_sub1 (f := e_i64) (fun _ => rfl) h31 rfl)⟩⟩)
theorem tollwayref17_Compare_L17_2  (k6 : Nat) (b2 : (List Int)) (c29 : ¬ ((↑k6 : Int) < (↑b2.length : Int))) : Does Tryz.prog GT 1 (bodyAt Tryz.prog 163 [1, 1, 0, 1, 0, 0]) (tollwayref17_Compare_L17_H  (k6, b2)) (.exit 0) (S 63 [] [(bT (fl e_i64 b2) 3)]) :=
  Does.of_viewM 1 400 ((tollwayref17_Compare_L17_h1) ++ [.br false]) [0] (ps := [((decide ((↑k6 : Int) < (↑b2.length : Int))) = false)]) (by kernel_rfl) (by kernel_rfl) (ok1 (decide_eq_false c29))
def tollwayref17_Compare_L17_X  : ((Int × (List Int)) ⊕ (List Int)) → AEx := fun q => match q with | Sum.inl o => .ret | Sum.inr (o) => (.exit 0)
def tollwayref17_Compare_L17_E  : ((Int × (List Int)) ⊕ (List Int)) → St := fun q => match q with | Sum.inl o => S 63 [(4, .int .i64 o.1)] [(bT (fl e_i64 o.2) 3)] | Sum.inr (o) => S 63 [] [(bT (fl e_i64 o) 3)]
theorem tollwayref17_Compare_L17_does  {s : (Nat × (List Int))} {r : (Int × (List Int)) ⊕ (List Int)} (h : lp (tollwayref17_Compare_L17_step ) s = some r) : Does Tryz.prog GT 1 (.loop (bodyAt Tryz.prog 163 [1, 1, 0, 1, 0, 0])) (tollwayref17_Compare_L17_H  s) (tollwayref17_Compare_L17_X  r) (tollwayref17_Compare_L17_E  r) := by
  refine Does.lp (H := tollwayref17_Compare_L17_H ) (X := tollwayref17_Compare_L17_X ) (E := tollwayref17_Compare_L17_E ) (fun s s2 h => ?_) (fun s r h => ?_) h
  · obtain ⟨k6, b2⟩ := s
    unfold tollwayref17_Compare_L17_step at h
    try dsimp only at h
    rcases ite_some h with ⟨c29, h⟩ | ⟨c29, h⟩
    · obtain ⟨x30, h31, h⟩ := bind_some h
      rcases ite_some h with ⟨c32, h⟩ | ⟨c32, h⟩
      · obtain ⟨h33, h⟩ := guard_some h
        simp only [Option.some.injEq, Sum.inl.injEq] at h
        subst h
        have hq := tollwayref17_Compare_L17_0 k6 b2 c29 x30 h31 c32 h33
        first | exact hq | exact Eq.mp (by simp only [tollwayref17_Compare_L17_H, List.length_set] <;> rfl) hq
      · simp at h
    · simp at h
  · obtain ⟨k6, b2⟩ := s
    unfold tollwayref17_Compare_L17_step at h
    try dsimp only at h
    rcases ite_some h with ⟨c29, h⟩ | ⟨c29, h⟩
    · obtain ⟨x30, h31, h⟩ := bind_some h
      rcases ite_some h with ⟨c32, h⟩ | ⟨c32, h⟩
      · obtain ⟨h33, h⟩ := guard_some h
        simp at h
      · simp only [Option.some.injEq, Sum.inr.injEq] at h
        subst h
        exact ⟨tollwayref17_Compare_L17_1 k6 b2 c29 x30 h31 c32, by intro q; cases q⟩
    · simp only [Option.some.injEq, Sum.inr.injEq] at h
      subst h
      exact ⟨tollwayref17_Compare_L17_2 k6 b2 c29, by intro q; cases q⟩
noncomputable def tollwayref17_Compare (a_0 : Tapi_Passage) (b_1 : Tapi_Passage) : Option Int :=
  (tollwayref17_numbers a_0.Time b_1.Time).bind fun r1 =>
  (tollwayref17_texts a_0.Point b_1.Point).bind fun r3 =>
  (tollwayref17_texts a_0.ID b_1.ID).bind fun r5 =>
  (tollwayref17_texts a_0.Tag b_1.Tag).bind fun r7 =>
  (tollwayref17_texts a_0.Plate b_1.Plate).bind fun r9 =>
  (tollwayref17_numbers a_0.Class b_1.Class).bind fun r11 =>
  (tollwayref17_numbers a_0.Score b_1.Score).bind fun r13 =>
  (tollwayref17_lists a_0.Sources b_1.Sources).bind fun r15 =>
  (lp (tollwayref17_Compare_L17_step) ((0 : Nat), ([r1, r3, r5, r7, r9, r11, r13, r15] : (List Int)))).bind fun qq => match qq with
  | Sum.inl o17 =>
    some o17.1
  | Sum.inr (o17) =>
    some 0
def tollwayref17_Compare_h1 (a_0 : Tapi_Passage) (b_1 : Tapi_Passage) (r1 : Int) (r3 : Int) (r5 : Int) (r7 : Int) (r9 : Int) (r11 : Int) (r13 : Int) (r15 : Int) : List CH := (cs 7 ((.ret none [.int .i64 a_0.Time, .int .i64 b_1.Time] (.int .i64 r1) []) :: (cs 4 ((.ret none [.str a_0.Point, .str b_1.Point] (.int .i64 r3) []) :: (cs 4 ((.ret none [.str a_0.ID, .str b_1.ID] (.int .i64 r5) []) :: (cs 4 ((.ret none [.str a_0.Tag, .str b_1.Tag] (.int .i64 r7) []) :: (cs 4 ((.ret none [.str a_0.Plate, .str b_1.Plate] (.int .i64 r9) []) :: (cs 4 ((.ret none [.int .i64 a_0.Class, .int .i64 b_1.Class] (.int .i64 r11) []) :: (cs 4 ((.ret none [.int .i64 a_0.Score, .int .i64 b_1.Score] (.int .i64 r13) []) :: (cs 4 ((.ret none [.lst (fl Tapi_Source.enc a_0.Sources) a_0.Sources.length, .lst (fl Tapi_Source.enc b_1.Sources) b_1.Sources.length] (.int .i64 r15) []) :: (cs 3 [])))))))))))))))))
def tollwayref17_Compare_p2 (a_0 : Tapi_Passage) (b_1 : Tapi_Passage) (r1 : Int) (r3 : Int) (r5 : Int) (r7 : Int) (r9 : Int) (r11 : Int) (r13 : Int) (r15 : Int) : List Prop := [((.int .i64 a_0.Time : AV) = .int .i64 a_0.Time), ((.int .i64 b_1.Time : AV) = .int .i64 b_1.Time), (Ret Tryz.prog GT 232 [.int .i64 a_0.Time, .int .i64 b_1.Time] (.int .i64 r1) []), ((.str a_0.Point : AV) = .str a_0.Point), ((.str b_1.Point : AV) = .str b_1.Point), (Ret Tryz.prog GT 233 [.str a_0.Point, .str b_1.Point] (.int .i64 r3) []), ((.str a_0.ID : AV) = .str a_0.ID), ((.str b_1.ID : AV) = .str b_1.ID), (Ret Tryz.prog GT 233 [.str a_0.ID, .str b_1.ID] (.int .i64 r5) []), ((.str a_0.Tag : AV) = .str a_0.Tag), ((.str b_1.Tag : AV) = .str b_1.Tag), (Ret Tryz.prog GT 233 [.str a_0.Tag, .str b_1.Tag] (.int .i64 r7) []), ((.str a_0.Plate : AV) = .str a_0.Plate), ((.str b_1.Plate : AV) = .str b_1.Plate), (Ret Tryz.prog GT 233 [.str a_0.Plate, .str b_1.Plate] (.int .i64 r9) []), ((.int .i64 a_0.Class : AV) = .int .i64 a_0.Class), ((.int .i64 b_1.Class : AV) = .int .i64 b_1.Class), (Ret Tryz.prog GT 232 [.int .i64 a_0.Class, .int .i64 b_1.Class] (.int .i64 r11) []), ((.int .i64 a_0.Score : AV) = .int .i64 a_0.Score), ((.int .i64 b_1.Score : AV) = .int .i64 b_1.Score), (Ret Tryz.prog GT 232 [.int .i64 a_0.Score, .int .i64 b_1.Score] (.int .i64 r13) []), ((.lst (fl Tapi_Source.enc a_0.Sources) a_0.Sources.length : AV) = .lst (fl Tapi_Source.enc a_0.Sources) a_0.Sources.length), ((.lst (fl Tapi_Source.enc b_1.Sources) b_1.Sources.length : AV) = .lst (fl Tapi_Source.enc b_1.Sources) b_1.Sources.length), (Ret Tryz.prog GT 234 [.lst (fl Tapi_Source.enc a_0.Sources) a_0.Sources.length, .lst (fl Tapi_Source.enc b_1.Sources) b_1.Sources.length] (.int .i64 r15) []), ((.sl 2 0 8 8 true 1 : AV) = .sl 2 0 (([r1, r3, r5, r7, r9, r11, r13, r15] : (List Int)).length) (([r1, r3, r5, r7, r9, r11, r13, r15] : (List Int)).length) true 1), ((.int .i64 0 : AV) = .int .i64 (↑(0 : Nat) : Int)), (((bT [.int .i64 r1, .int .i64 r3, .int .i64 r5, .int .i64 r7, .int .i64 r9, .int .i64 r11, .int .i64 r13, .int .i64 r15] 3) : Blk) = renB [2] (bT (fl e_i64 ([r1, r3, r5, r7, r9, r11, r13, r15] : (List Int))) 3))]
theorem tollwayref17_Compare_p2q (a_0 : Tapi_Passage) (b_1 : Tapi_Passage) (r1 : Int) (h2 : tollwayref17_numbers a_0.Time b_1.Time = some r1) (r3 : Int) (h4 : tollwayref17_texts a_0.Point b_1.Point = some r3) (r5 : Int) (h6 : tollwayref17_texts a_0.ID b_1.ID = some r5) (r7 : Int) (h8 : tollwayref17_texts a_0.Tag b_1.Tag = some r7) (r9 : Int) (h10 : tollwayref17_texts a_0.Plate b_1.Plate = some r9) (r11 : Int) (h12 : tollwayref17_numbers a_0.Class b_1.Class = some r11) (r13 : Int) (h14 : tollwayref17_numbers a_0.Score b_1.Score = some r13) (r15 : Int) (h16 : tollwayref17_lists a_0.Sources b_1.Sources = some r15) : allOk (tollwayref17_Compare_p2 a_0 b_1 r1 r3 r5 r7 r9 r11 r13 r15) := ⟨rfl, rfl, (tollwayref17_numbers_ret a_0.Time b_1.Time r1 h2), rfl, rfl, (tollwayref17_texts_ret a_0.Point b_1.Point r3 h4), rfl, rfl, (tollwayref17_texts_ret a_0.ID b_1.ID r5 h6), rfl, rfl, (tollwayref17_texts_ret a_0.Tag b_1.Tag r7 h8), rfl, rfl, (tollwayref17_texts_ret a_0.Plate b_1.Plate r9 h10), rfl, rfl, (tollwayref17_numbers_ret a_0.Class b_1.Class r11 h12), rfl, rfl, (tollwayref17_numbers_ret a_0.Score b_1.Score r13 h14), rfl, rfl, (tollwayref17_lists_ret a_0.Sources b_1.Sources r15 h16), rfl, rfl, ok1 rfl⟩
theorem tollwayref17_Compare_0 (a_0 : Tapi_Passage) (b_1 : Tapi_Passage) (r1 : Int) (h2 : tollwayref17_numbers a_0.Time b_1.Time = some r1) (r3 : Int) (h4 : tollwayref17_texts a_0.Point b_1.Point = some r3) (r5 : Int) (h6 : tollwayref17_texts a_0.ID b_1.ID = some r5) (r7 : Int) (h8 : tollwayref17_texts a_0.Tag b_1.Tag = some r7) (r9 : Int) (h10 : tollwayref17_texts a_0.Plate b_1.Plate = some r9) (r11 : Int) (h12 : tollwayref17_numbers a_0.Class b_1.Class = some r11) (r13 : Int) (h14 : tollwayref17_numbers a_0.Score b_1.Score = some r13) (r15 : Int) (h16 : tollwayref17_lists a_0.Sources b_1.Sources = some r15) (o17 : (Int × (List Int))) (hl17 : lp (tollwayref17_Compare_L17_step) ((0 : Nat), ([r1, r3, r5, r7, r9, r11, r13, r15] : (List Int))) = some (Sum.inl o17)) : Ret Tryz.prog GT 163 [.agg (Tapi_Passage.enc a_0), .agg (Tapi_Passage.enc b_1)] (.int .i64 o17.1) [] :=
  Ret.of_view 400 ((tollwayref17_Compare_h1 a_0 b_1 r1 r3 r5 r7 r9 r11 r13 r15) ++ [.fcut 1 .ret [(4, .int .i64 o17.1)] [(bT (fl e_i64 o17.2) 3)] [2] [(5, .sl 0 0 (([r1, r3, r5, r7, r9, r11, r13, r15] : (List Int)).length) (([r1, r3, r5, r7, r9, r11, r13, r15] : (List Int)).length) true 1), (6, .int .i64 (↑(0 : Nat) : Int))] [(bT (fl e_i64 ([r1, r3, r5, r7, r9, r11, r13, r15] : (List Int))) 3)]]) [] (ps := ((tollwayref17_Compare_p2 a_0 b_1 r1 r3 r5 r7 r9 r11 r13 r15) ++ [(Does Tryz.prog GT 1 (.loop (bodyAt Tryz.prog 163 [1, 1, 0, 1, 0, 0])) (S 63 [(5, .sl 0 0 (([r1, r3, r5, r7, r9, r11, r13, r15] : (List Int)).length) (([r1, r3, r5, r7, r9, r11, r13, r15] : (List Int)).length) true 1), (6, .int .i64 (↑(0 : Nat) : Int))] [(bT (fl e_i64 ([r1, r3, r5, r7, r9, r11, r13, r15] : (List Int))) 3)]) .ret (S 63 [(4, .int .i64 o17.1)] [(bT (fl e_i64 o17.2) 3)]))])) (by kernel_rfl) (by kernel_rfl) (allOk_append.2 ⟨(tollwayref17_Compare_p2q a_0 b_1 r1 h2 r3 h4 r5 h6 r7 h8 r9 h10 r11 h12 r13 h14 r15 h16), (ok1 (tollwayref17_Compare_L17_does (s := ((0 : Nat), ([r1, r3, r5, r7, r9, r11, r13, r15] : (List Int)))) (r := Sum.inl o17) hl17))⟩)
theorem tollwayref17_Compare_1 (a_0 : Tapi_Passage) (b_1 : Tapi_Passage) (r1 : Int) (h2 : tollwayref17_numbers a_0.Time b_1.Time = some r1) (r3 : Int) (h4 : tollwayref17_texts a_0.Point b_1.Point = some r3) (r5 : Int) (h6 : tollwayref17_texts a_0.ID b_1.ID = some r5) (r7 : Int) (h8 : tollwayref17_texts a_0.Tag b_1.Tag = some r7) (r9 : Int) (h10 : tollwayref17_texts a_0.Plate b_1.Plate = some r9) (r11 : Int) (h12 : tollwayref17_numbers a_0.Class b_1.Class = some r11) (r13 : Int) (h14 : tollwayref17_numbers a_0.Score b_1.Score = some r13) (r15 : Int) (h16 : tollwayref17_lists a_0.Sources b_1.Sources = some r15) (o17 : (List Int)) (hl17 : lp (tollwayref17_Compare_L17_step) ((0 : Nat), ([r1, r3, r5, r7, r9, r11, r13, r15] : (List Int))) = some (Sum.inr (o17))) : Ret Tryz.prog GT 163 [.agg (Tapi_Passage.enc a_0), .agg (Tapi_Passage.enc b_1)] (.int .i64 0) [] :=
  Ret.of_view 400 ((tollwayref17_Compare_h1 a_0 b_1 r1 r3 r5 r7 r9 r11 r13 r15) ++ [.fcut 1 (.exit 0) [] [(bT (fl e_i64 o17) 3)] [2] [(5, .sl 0 0 (([r1, r3, r5, r7, r9, r11, r13, r15] : (List Int)).length) (([r1, r3, r5, r7, r9, r11, r13, r15] : (List Int)).length) true 1), (6, .int .i64 (↑(0 : Nat) : Int))] [(bT (fl e_i64 ([r1, r3, r5, r7, r9, r11, r13, r15] : (List Int))) 3)], .op none .c]) [] (ps := ((tollwayref17_Compare_p2 a_0 b_1 r1 r3 r5 r7 r9 r11 r13 r15) ++ [(Does Tryz.prog GT 1 (.loop (bodyAt Tryz.prog 163 [1, 1, 0, 1, 0, 0])) (S 63 [(5, .sl 0 0 (([r1, r3, r5, r7, r9, r11, r13, r15] : (List Int)).length) (([r1, r3, r5, r7, r9, r11, r13, r15] : (List Int)).length) true 1), (6, .int .i64 (↑(0 : Nat) : Int))] [(bT (fl e_i64 ([r1, r3, r5, r7, r9, r11, r13, r15] : (List Int))) 3)]) (.exit 0) (S 63 [] [(bT (fl e_i64 o17) 3)]))])) (by kernel_rfl) (by kernel_rfl) (allOk_append.2 ⟨(tollwayref17_Compare_p2q a_0 b_1 r1 h2 r3 h4 r5 h6 r7 h8 r9 h10 r11 h12 r13 h14 r15 h16), (ok1 (tollwayref17_Compare_L17_does (s := ((0 : Nat), ([r1, r3, r5, r7, r9, r11, r13, r15] : (List Int)))) (r := Sum.inr (o17)) hl17))⟩)
theorem tollwayref17_Compare_ret (a_0 : Tapi_Passage) (b_1 : Tapi_Passage) (r : Int) (h : tollwayref17_Compare a_0 b_1 = some r) : Ret Tryz.prog GT 163 [.agg (Tapi_Passage.enc a_0), .agg (Tapi_Passage.enc b_1)] (.int .i64 r) [] := by
  unfold tollwayref17_Compare at h
  obtain ⟨r1, h2, h⟩ := bind_some h
  obtain ⟨r3, h4, h⟩ := bind_some h
  obtain ⟨r5, h6, h⟩ := bind_some h
  obtain ⟨r7, h8, h⟩ := bind_some h
  obtain ⟨r9, h10, h⟩ := bind_some h
  obtain ⟨r11, h12, h⟩ := bind_some h
  obtain ⟨r13, h14, h⟩ := bind_some h
  obtain ⟨r15, h16, h⟩ := bind_some h
  obtain ⟨qq, hl17, h⟩ := bind_some h
  rcases qq with o17 | o17
  · dsimp only at h
    simp only [Option.some.injEq] at h
    subst h
    exact tollwayref17_Compare_0 a_0 b_1 r1 h2 r3 h4 r5 h6 r7 h8 r9 h10 r11 h12 r13 h14 r15 h16 o17 hl17
  · dsimp only at h
    simp only [Option.some.injEq] at h
    subst h
    exact tollwayref17_Compare_1 a_0 b_1 r1 h2 r3 h4 r5 h6 r7 h8 r9 h10 r11 h12 r13 h14 r15 h16 o17 hl17
noncomputable def tollwayref17_One (a_0 : Tapi_Passage) (b_1 : Tapi_Passage) : Option Bool :=
  (tollwayref17_Compare a_0 b_1).bind fun r1 =>
  some (r1 == (0 : Int))
theorem tollwayref17_One_0 (a_0 : Tapi_Passage) (b_1 : Tapi_Passage) (r1 : Int) (h2 : tollwayref17_Compare a_0 b_1 = some r1) : Ret Tryz.prog GT 77 [.agg (Tapi_Passage.enc a_0), .agg (Tapi_Passage.enc b_1)] (.bool (r1 == (0 : Int))) [] :=
  Ret.of_view 400 (cs 5 [.ret none [.agg (Tapi_Passage.enc a_0), .agg (Tapi_Passage.enc b_1)] (.int .i64 r1) [], .op none .a, .op none .c]) [] (ps := [((.agg (Tapi_Passage.enc a_0) : AV) = .agg (Tapi_Passage.enc a_0)), ((.agg (Tapi_Passage.enc b_1) : AV) = .agg (Tapi_Passage.enc b_1)), (Ret Tryz.prog GT 163 [.agg (Tapi_Passage.enc a_0), .agg (Tapi_Passage.enc b_1)] (.int .i64 r1) [])]) (by kernel_rfl) (by kernel_rfl) ⟨rfl, rfl, ok1 (tollwayref17_Compare_ret a_0 b_1 r1 h2)⟩
theorem tollwayref17_One_ret (a_0 : Tapi_Passage) (b_1 : Tapi_Passage) (r : Bool) (h : tollwayref17_One a_0 b_1 = some r) : Ret Tryz.prog GT 77 [.agg (Tapi_Passage.enc a_0), .agg (Tapi_Passage.enc b_1)] (.bool r) [] := by
  unfold tollwayref17_One at h
  obtain ⟨r1, h2, h⟩ := bind_some h
  simp only [Option.some.injEq] at h
  subst h
  exact tollwayref17_One_0 a_0 b_1 r1 h2
noncomputable def tollwayref17_Same_L2_step (a_0 : (List Tapi_Passage)) (b_1 : (List Tapi_Passage)) : Nat → Option (Nat ⊕ (Unit ⊕ Unit)) := fun k5 =>
  if (↑k5 : Int) < (↑a_0.length : Int) then
    (a_0[k5]?).bind fun x13 =>
    (b_1[k5]?).bind fun x15 =>
    (tollwayref17_One x13 x15).bind fun r17 =>
    if r17 = true then
      if InR .i64 ((↑k5 : Int) + 1) then
        some (Sum.inl (k5 + 1))
      else none
    else
      some (Sum.inr (Sum.inl ()))
  else
    some (Sum.inr (Sum.inr (())))
def tollwayref17_Same_L2_H (a_0 : (List Tapi_Passage)) (b_1 : (List Tapi_Passage)) : Nat → St := fun (s : Nat) => S 27 [(0, .lst (fl Tapi_Passage.enc a_0) a_0.length), (1, .lst (fl Tapi_Passage.enc b_1) b_1.length), (5, .int .i64 (↑s : Int))] []
def tollwayref17_Same_L2_h1  : List CH := (cs 3 [.op none .a])
def tollwayref17_Same_L2_h2 (k5 : Nat) (x13 : Tapi_Passage) (x15 : Tapi_Passage) (r17 : Bool) : List CH := ((.br true) :: (cs 2 ((.op none (.i k5)) :: (.op none (.v [.str x13.ID, .str x13.Point, .int .i64 x13.Time, .str x13.Tag, .str x13.Plate, .int .i64 x13.Class, .int .i64 x13.Score, .lst (fl Tapi_Source.enc x13.Sources) x13.Sources.length])) :: (cs 2 [.op none (.i k5), .op none (.v [.str x15.ID, .str x15.Point, .int .i64 x15.Time, .str x15.Tag, .str x15.Plate, .int .i64 x15.Class, .int .i64 x15.Score, .lst (fl Tapi_Source.enc x15.Sources) x15.Sources.length]), .ret none [.agg (Tapi_Passage.enc x13), .agg (Tapi_Passage.enc x15)] (.bool r17) [], .op none .c]))))
def tollwayref17_Same_L2_p3 (a_0 : (List Tapi_Passage)) (b_1 : (List Tapi_Passage)) (k5 : Nat) (x13 : Tapi_Passage) (x15 : Tapi_Passage) (r17 : Bool) : List Prop := [((decide ((↑k5 : Int) < (↑a_0.length : Int))) = true), ((↑k5 : Int) = ((k5 : Nat) : Int) ∧ k5 < a_0.length), ((fl Tapi_Passage.enc a_0) ≠ []), (sub (fl Tapi_Passage.enc a_0) (k5 * 8) 8 = [.str x13.ID, .str x13.Point, .int .i64 x13.Time, .str x13.Tag, .str x13.Plate, .int .i64 x13.Class, .int .i64 x13.Score, .lst (fl Tapi_Source.enc x13.Sources) x13.Sources.length]), ((↑k5 : Int) = ((k5 : Nat) : Int) ∧ k5 < b_1.length), ((fl Tapi_Passage.enc b_1) ≠ []), (sub (fl Tapi_Passage.enc b_1) (k5 * 8) 8 = [.str x15.ID, .str x15.Point, .int .i64 x15.Time, .str x15.Tag, .str x15.Plate, .int .i64 x15.Class, .int .i64 x15.Score, .lst (fl Tapi_Source.enc x15.Sources) x15.Sources.length]), ((.agg (Tapi_Passage.enc x13) : AV) = .agg (Tapi_Passage.enc x13)), ((.agg (Tapi_Passage.enc x15) : AV) = .agg (Tapi_Passage.enc x15)), (Ret Tryz.prog GT 77 [.agg (Tapi_Passage.enc x13), .agg (Tapi_Passage.enc x15)] (.bool r17) [])]
theorem tollwayref17_Same_L2_p3q (a_0 : (List Tapi_Passage)) (b_1 : (List Tapi_Passage)) (k5 : Nat) (c12 : (↑k5 : Int) < (↑a_0.length : Int)) (x13 : Tapi_Passage) (h14 : a_0[k5]? = some x13) (x15 : Tapi_Passage) (h16 : b_1[k5]? = some x15) (r17 : Bool) (h18 : tollwayref17_One x13 x15 = some r17) : allOk (tollwayref17_Same_L2_p3 a_0 b_1 k5 x13 x15 r17) := ⟨(decide_eq_true c12), ⟨rfl, get_lt h14⟩, (fl_ne (f := Tapi_Passage.enc) (z := 7) (fun _ => rfl) h14), (fl_sub0 (f := Tapi_Passage.enc) (z := 8) (j := k5) (fun _ => rfl) h14 rfl), ⟨rfl, get_lt h16⟩, (fl_ne (f := Tapi_Passage.enc) (z := 7) (fun _ => rfl) h16), (fl_sub0 (f := Tapi_Passage.enc) (z := 8) (j := k5) (fun _ => rfl) h16 rfl), rfl, rfl, ok1 (tollwayref17_One_ret x13 x15 r17 h18)⟩
theorem tollwayref17_Same_L2_0 (a_0 : (List Tapi_Passage)) (b_1 : (List Tapi_Passage)) (k5 : Nat) (c12 : (↑k5 : Int) < (↑a_0.length : Int)) (x13 : Tapi_Passage) (h14 : a_0[k5]? = some x13) (x15 : Tapi_Passage) (h16 : b_1[k5]? = some x15) (r17 : Bool) (h18 : tollwayref17_One x13 x15 = some r17) (c19 : r17 = true) (h20 : InR .i64 ((↑k5 : Int) + 1)) : Does Tryz.prog GT 0 (bodyAt Tryz.prog 36 [1, 1, 0, 1, 0, 0]) (tollwayref17_Same_L2_H a_0 b_1 k5) .normal (S 27 [(0, .lst (fl Tapi_Passage.enc a_0) a_0.length), (1, .lst (fl Tapi_Passage.enc b_1) b_1.length), (5, .int .i64 ((↑k5 : Int) + 1))] []) :=
  Does.of_viewM 0 400 ((tollwayref17_Same_L2_h1) ++ ((tollwayref17_Same_L2_h2 k5 x13 x15 r17) ++ [.br false, .op none .c, .op none .w, .op none .c])) [] (ps := ((tollwayref17_Same_L2_p3 a_0 b_1 k5 x13 x15 r17) ++ [((!r17) = false), (IntKind.min .i64 ≤ ((↑k5 : Int) + 1) ∧ ((↑k5 : Int) + 1) ≤ IntKind.max .i64)])) (by kernel_rfl) (by kernel_rfl) (allOk_append.2 ⟨(tollwayref17_Same_L2_p3q a_0 b_1 k5 c12 x13 h14 x15 h16 r17 h18), ⟨(not_f c19), ok1 h20⟩⟩)
theorem tollwayref17_Same_L2_1 (a_0 : (List Tapi_Passage)) (b_1 : (List Tapi_Passage)) (k5 : Nat) (c12 : (↑k5 : Int) < (↑a_0.length : Int)) (x13 : Tapi_Passage) (h14 : a_0[k5]? = some x13) (x15 : Tapi_Passage) (h16 : b_1[k5]? = some x15) (r17 : Bool) (h18 : tollwayref17_One x13 x15 = some r17) (c19 : ¬ (r17 = true)) : Does Tryz.prog GT 0 (bodyAt Tryz.prog 36 [1, 1, 0, 1, 0, 0]) (tollwayref17_Same_L2_H a_0 b_1 k5) .ret (S 27 [(4, .bool false)] []) :=
  Does.of_viewM 0 400 ((tollwayref17_Same_L2_h1) ++ ((tollwayref17_Same_L2_h2 k5 x13 x15 r17) ++ [.br true, .op none .c])) [] (ps := ((tollwayref17_Same_L2_p3 a_0 b_1 k5 x13 x15 r17) ++ [((!r17) = true)])) (by kernel_rfl) (by kernel_rfl) (allOk_append.2 ⟨(tollwayref17_Same_L2_p3q a_0 b_1 k5 c12 x13 h14 x15 h16 r17 h18), (ok1 (not_t (eq_false_of_ne_true c19)))⟩)
theorem tollwayref17_Same_L2_2 (a_0 : (List Tapi_Passage)) (b_1 : (List Tapi_Passage)) (k5 : Nat) (c12 : ¬ ((↑k5 : Int) < (↑a_0.length : Int))) : Does Tryz.prog GT 0 (bodyAt Tryz.prog 36 [1, 1, 0, 1, 0, 0]) (tollwayref17_Same_L2_H a_0 b_1 k5) (.exit 0) (S 27 [] []) :=
  Does.of_viewM 0 400 ((tollwayref17_Same_L2_h1) ++ [.br false]) [] (ps := [((decide ((↑k5 : Int) < (↑a_0.length : Int))) = false)]) (by kernel_rfl) (by kernel_rfl) (ok1 (decide_eq_false c12))
def tollwayref17_Same_L2_X (a_0 : (List Tapi_Passage)) (b_1 : (List Tapi_Passage)) : (Unit ⊕ Unit) → AEx := fun q => match q with | Sum.inl o => .ret | Sum.inr (o) => (.exit 0)
def tollwayref17_Same_L2_E (a_0 : (List Tapi_Passage)) (b_1 : (List Tapi_Passage)) : (Unit ⊕ Unit) → St := fun q => match q with | Sum.inl o => S 27 [(4, .bool false)] [] | Sum.inr (o) => S 27 [] []
theorem tollwayref17_Same_L2_does (a_0 : (List Tapi_Passage)) (b_1 : (List Tapi_Passage)) {s : Nat} {r : Unit ⊕ Unit} (h : lp (tollwayref17_Same_L2_step a_0 b_1) s = some r) : Does Tryz.prog GT 0 (.loop (bodyAt Tryz.prog 36 [1, 1, 0, 1, 0, 0])) (tollwayref17_Same_L2_H a_0 b_1 s) (tollwayref17_Same_L2_X a_0 b_1 r) (tollwayref17_Same_L2_E a_0 b_1 r) := by
  refine Does.lp (H := tollwayref17_Same_L2_H a_0 b_1) (X := tollwayref17_Same_L2_X a_0 b_1) (E := tollwayref17_Same_L2_E a_0 b_1) (fun s s2 h => ?_) (fun s r h => ?_) h
  · revert h; revert s; intro k5 h
    unfold tollwayref17_Same_L2_step at h
    try dsimp only at h
    rcases ite_some h with ⟨c12, h⟩ | ⟨c12, h⟩
    · obtain ⟨x13, h14, h⟩ := bind_some h
      obtain ⟨x15, h16, h⟩ := bind_some h
      obtain ⟨r17, h18, h⟩ := bind_some h
      rcases ite_some h with ⟨c19, h⟩ | ⟨c19, h⟩
      · obtain ⟨h20, h⟩ := guard_some h
        simp only [Option.some.injEq, Sum.inl.injEq] at h
        subst h
        have hq := tollwayref17_Same_L2_0 a_0 b_1 k5 c12 x13 h14 x15 h16 r17 h18 c19 h20
        first | exact hq | exact Eq.mp (by simp only [tollwayref17_Same_L2_H, List.length_set] <;> rfl) hq
      · simp at h
    · simp at h
  · revert h; revert s; intro k5 h
    unfold tollwayref17_Same_L2_step at h
    try dsimp only at h
    rcases ite_some h with ⟨c12, h⟩ | ⟨c12, h⟩
    · obtain ⟨x13, h14, h⟩ := bind_some h
      obtain ⟨x15, h16, h⟩ := bind_some h
      obtain ⟨r17, h18, h⟩ := bind_some h
      rcases ite_some h with ⟨c19, h⟩ | ⟨c19, h⟩
      · obtain ⟨h20, h⟩ := guard_some h
        simp at h
      · simp only [Option.some.injEq, Sum.inr.injEq] at h
        subst h
        exact ⟨tollwayref17_Same_L2_1 a_0 b_1 k5 c12 x13 h14 x15 h16 r17 h18 c19, by intro q; cases q⟩
    · simp only [Option.some.injEq, Sum.inr.injEq] at h
      subst h
      exact ⟨tollwayref17_Same_L2_2 a_0 b_1 k5 c12, by intro q; cases q⟩
noncomputable def tollwayref17_Same (a_0 : (List Tapi_Passage)) (b_1 : (List Tapi_Passage)) : Option Bool :=
  if (↑a_0.length : Int) = (↑b_1.length : Int) then
    (lp (tollwayref17_Same_L2_step a_0 b_1) (0 : Nat)).bind fun qq => match qq with
    | Sum.inl o2 =>
      some false
    | Sum.inr (o2) =>
      some true
  else
    some false
def tollwayref17_Same_h1  : List CH := (cs 5 [.op none .a])
def tollwayref17_Same_p2 (a_0 : (List Tapi_Passage)) (b_1 : (List Tapi_Passage)) : List Prop := [((!((↑a_0.length : Int) == (↑b_1.length : Int))) = false), ((.lst (fl Tapi_Passage.enc a_0) a_0.length : AV) = .lst (fl Tapi_Passage.enc a_0) a_0.length), ((.lst (fl Tapi_Passage.enc b_1) b_1.length : AV) = .lst (fl Tapi_Passage.enc b_1) b_1.length), ((.int .i64 0 : AV) = .int .i64 (↑(0 : Nat) : Int))]
theorem tollwayref17_Same_p2q (a_0 : (List Tapi_Passage)) (b_1 : (List Tapi_Passage)) (c1 : (↑a_0.length : Int) = (↑b_1.length : Int)) : allOk (tollwayref17_Same_p2 a_0 b_1) := ⟨(not_f (beq_t c1)), rfl, rfl, ok1 rfl⟩
theorem tollwayref17_Same_0 (a_0 : (List Tapi_Passage)) (b_1 : (List Tapi_Passage)) (c1 : (↑a_0.length : Int) = (↑b_1.length : Int)) (o2 : Unit) (hl2 : lp (tollwayref17_Same_L2_step a_0 b_1) (0 : Nat) = some (Sum.inl o2)) : Ret Tryz.prog GT 36 [.lst (fl Tapi_Passage.enc a_0) a_0.length, .lst (fl Tapi_Passage.enc b_1) b_1.length] (.bool false) [] :=
  Ret.of_view 400 ((tollwayref17_Same_h1) ++ ([.br false, .op none .c] ++ [.fcut 0 .ret [(4, .bool false)] [] [] [(0, .lst (fl Tapi_Passage.enc a_0) a_0.length), (1, .lst (fl Tapi_Passage.enc b_1) b_1.length), (5, .int .i64 (↑(0 : Nat) : Int))] []])) [] (ps := ((tollwayref17_Same_p2 a_0 b_1) ++ [(Does Tryz.prog GT 0 (.loop (bodyAt Tryz.prog 36 [1, 1, 0, 1, 0, 0])) (S 27 [(0, .lst (fl Tapi_Passage.enc a_0) a_0.length), (1, .lst (fl Tapi_Passage.enc b_1) b_1.length), (5, .int .i64 (↑(0 : Nat) : Int))] []) .ret (S 27 [(4, .bool false)] []))])) (by kernel_rfl) (by kernel_rfl) (allOk_append.2 ⟨(tollwayref17_Same_p2q a_0 b_1 c1), (ok1 (tollwayref17_Same_L2_does a_0 b_1 (s := (0 : Nat)) (r := Sum.inl o2) hl2))⟩)
theorem tollwayref17_Same_1 (a_0 : (List Tapi_Passage)) (b_1 : (List Tapi_Passage)) (c1 : (↑a_0.length : Int) = (↑b_1.length : Int)) (o2 : Unit) (hl2 : lp (tollwayref17_Same_L2_step a_0 b_1) (0 : Nat) = some (Sum.inr (o2))) : Ret Tryz.prog GT 36 [.lst (fl Tapi_Passage.enc a_0) a_0.length, .lst (fl Tapi_Passage.enc b_1) b_1.length] (.bool true) [] :=
  Ret.of_view 400 ((tollwayref17_Same_h1) ++ ([.br false, .op none .c] ++ [.fcut 0 (.exit 0) [] [] [] [(0, .lst (fl Tapi_Passage.enc a_0) a_0.length), (1, .lst (fl Tapi_Passage.enc b_1) b_1.length), (5, .int .i64 (↑(0 : Nat) : Int))] [], .op none .c])) [] (ps := ((tollwayref17_Same_p2 a_0 b_1) ++ [(Does Tryz.prog GT 0 (.loop (bodyAt Tryz.prog 36 [1, 1, 0, 1, 0, 0])) (S 27 [(0, .lst (fl Tapi_Passage.enc a_0) a_0.length), (1, .lst (fl Tapi_Passage.enc b_1) b_1.length), (5, .int .i64 (↑(0 : Nat) : Int))] []) (.exit 0) (S 27 [] []))])) (by kernel_rfl) (by kernel_rfl) (allOk_append.2 ⟨(tollwayref17_Same_p2q a_0 b_1 c1), (ok1 (tollwayref17_Same_L2_does a_0 b_1 (s := (0 : Nat)) (r := Sum.inr (o2)) hl2))⟩)
theorem tollwayref17_Same_2 (a_0 : (List Tapi_Passage)) (b_1 : (List Tapi_Passage)) (c1 : ¬ ((↑a_0.length : Int) = (↑b_1.length : Int))) : Ret Tryz.prog GT 36 [.lst (fl Tapi_Passage.enc a_0) a_0.length, .lst (fl Tapi_Passage.enc b_1) b_1.length] (.bool false) [] :=
  Ret.of_view 400 ((tollwayref17_Same_h1) ++ [.br true, .op none .c]) [] (ps := [((!((↑a_0.length : Int) == (↑b_1.length : Int))) = true)]) (by kernel_rfl) (by kernel_rfl) (ok1 (not_t (beq_f c1)))
theorem tollwayref17_Same_ret (a_0 : (List Tapi_Passage)) (b_1 : (List Tapi_Passage)) (r : Bool) (h : tollwayref17_Same a_0 b_1 = some r) : Ret Tryz.prog GT 36 [.lst (fl Tapi_Passage.enc a_0) a_0.length, .lst (fl Tapi_Passage.enc b_1) b_1.length] (.bool r) [] := by
  unfold tollwayref17_Same at h
  rcases ite_some h with ⟨c1, h⟩ | ⟨c1, h⟩
  · obtain ⟨qq, hl2, h⟩ := bind_some h
    rcases qq with o2 | o2
    · dsimp only at h
      simp only [Option.some.injEq] at h
      subst h
      exact tollwayref17_Same_0 a_0 b_1 c1 o2 hl2
    · dsimp only at h
      simp only [Option.some.injEq] at h
      subst h
      exact tollwayref17_Same_1 a_0 b_1 c1 o2 hl2
  · simp only [Option.some.injEq] at h
    subst h
    exact tollwayref17_Same_2 a_0 b_1 c1
end Go.Proofs.YtnlaiahcemckkaaGreatDoor.Av
set_option linter.unusedVariables false
set_option linter.unusedSimpArgs false
set_option maxHeartbeats 4000000
namespace Go.Proofs.YtnlaiahcemckkaaGreatDoor.Av
open Go Go.Proofs
noncomputable def tollwayref16_SameRejects_L2_step (a_0 : (List Tapi_Reject)) (b_1 : (List Tapi_Reject)) : Nat → Option (Nat ⊕ (Unit ⊕ Unit)) := fun k5 =>
  if (↑k5 : Int) < (↑a_0.length : Int) then
    (a_0[k5]?).bind fun x11 =>
    (b_1[k5]?).bind fun x13 =>
    if (((x11.D.Device == x13.D.Device) && ((x11.D.Seq == x13.D.Seq) && ((x11.D.Time == x13.D.Time) && ((x11.D.Tag == x13.D.Tag) && ((x11.D.Plate == x13.D.Plate) && ((x11.D.Axles == x13.D.Axles) && ((x11.D.Score == x13.D.Score) && true))))))) && ((x11.Why == x13.Why) && true)) = true then
      if InR .i64 ((↑k5 : Int) + 1) then
        some (Sum.inl (k5 + 1))
      else none
    else
      some (Sum.inr (Sum.inl ()))
  else
    some (Sum.inr (Sum.inr (())))
def tollwayref16_SameRejects_L2_H (a_0 : (List Tapi_Reject)) (b_1 : (List Tapi_Reject)) : Nat → St := fun (s : Nat) => S 26 [(0, .lst (fl Tapi_Reject.enc a_0) a_0.length), (1, .lst (fl Tapi_Reject.enc b_1) b_1.length), (5, .int .i64 (↑s : Int))] []
def tollwayref16_SameRejects_L2_h1  : List CH := (cs 3 [.op none .a])
def tollwayref16_SameRejects_L2_h2 (k5 : Nat) (x11 : Tapi_Reject) (x13 : Tapi_Reject) : List CH := ((.br true) :: (cs 2 ((.op none (.i k5)) :: (.op none (.v [.str x11.D.Device, .int .i64 x11.D.Seq, .int .i64 x11.D.Time, .str x11.D.Tag, .str x11.D.Plate, .int .i64 x11.D.Axles, .int .i64 x11.D.Score, .int .i64 x11.Why])) :: (cs 2 [.op none (.i k5), .op none (.v [.str x13.D.Device, .int .i64 x13.D.Seq, .int .i64 x13.D.Time, .str x13.D.Tag, .str x13.D.Plate, .int .i64 x13.D.Axles, .int .i64 x13.D.Score, .int .i64 x13.Why]), .op none .c]))))
def tollwayref16_SameRejects_L2_p3 (a_0 : (List Tapi_Reject)) (b_1 : (List Tapi_Reject)) (k5 : Nat) (x11 : Tapi_Reject) (x13 : Tapi_Reject) : List Prop := [((decide ((↑k5 : Int) < (↑a_0.length : Int))) = true), ((↑k5 : Int) = ((k5 : Nat) : Int) ∧ k5 < a_0.length), ((fl Tapi_Reject.enc a_0) ≠ []), (sub (fl Tapi_Reject.enc a_0) (k5 * 8) 8 = [.str x11.D.Device, .int .i64 x11.D.Seq, .int .i64 x11.D.Time, .str x11.D.Tag, .str x11.D.Plate, .int .i64 x11.D.Axles, .int .i64 x11.D.Score, .int .i64 x11.Why]), ((↑k5 : Int) = ((k5 : Nat) : Int) ∧ k5 < b_1.length), ((fl Tapi_Reject.enc b_1) ≠ []), (sub (fl Tapi_Reject.enc b_1) (k5 * 8) 8 = [.str x13.D.Device, .int .i64 x13.D.Seq, .int .i64 x13.D.Time, .str x13.D.Tag, .str x13.D.Plate, .int .i64 x13.D.Axles, .int .i64 x13.D.Score, .int .i64 x13.Why])]
theorem tollwayref16_SameRejects_L2_p3q (a_0 : (List Tapi_Reject)) (b_1 : (List Tapi_Reject)) (k5 : Nat) (c10 : (↑k5 : Int) < (↑a_0.length : Int)) (x11 : Tapi_Reject) (h12 : a_0[k5]? = some x11) (x13 : Tapi_Reject) (h14 : b_1[k5]? = some x13) : allOk (tollwayref16_SameRejects_L2_p3 a_0 b_1 k5 x11 x13) := ⟨(decide_eq_true c10), ⟨rfl, get_lt h12⟩, (fl_ne (f := Tapi_Reject.enc) (z := 7) (fun _ => rfl) h12), (fl_sub0 (f := Tapi_Reject.enc) (z := 8) (j := k5) (fun _ => rfl) h12 rfl), ⟨rfl, get_lt h14⟩, (fl_ne (f := Tapi_Reject.enc) (z := 7) (fun _ => rfl) h14), ok1 (fl_sub0 (f := Tapi_Reject.enc) (z := 8) (j := k5) (fun _ => rfl) h14 rfl)⟩
theorem tollwayref16_SameRejects_L2_0 (a_0 : (List Tapi_Reject)) (b_1 : (List Tapi_Reject)) (k5 : Nat) (c10 : (↑k5 : Int) < (↑a_0.length : Int)) (x11 : Tapi_Reject) (h12 : a_0[k5]? = some x11) (x13 : Tapi_Reject) (h14 : b_1[k5]? = some x13) (c15 : (((x11.D.Device == x13.D.Device) && ((x11.D.Seq == x13.D.Seq) && ((x11.D.Time == x13.D.Time) && ((x11.D.Tag == x13.D.Tag) && ((x11.D.Plate == x13.D.Plate) && ((x11.D.Axles == x13.D.Axles) && ((x11.D.Score == x13.D.Score) && true))))))) && ((x11.Why == x13.Why) && true)) = true) (h16 : InR .i64 ((↑k5 : Int) + 1)) : Does Tryz.prog GT 0 (bodyAt Tryz.prog 37 [1, 1, 0, 1, 0, 0]) (tollwayref16_SameRejects_L2_H a_0 b_1 k5) .normal (S 26 [(0, .lst (fl Tapi_Reject.enc a_0) a_0.length), (1, .lst (fl Tapi_Reject.enc b_1) b_1.length), (5, .int .i64 ((↑k5 : Int) + 1))] []) :=
  Does.of_viewM 0 400 ((tollwayref16_SameRejects_L2_h1) ++ ((tollwayref16_SameRejects_L2_h2 k5 x11 x13) ++ [.br false, .op none .c, .op none .w, .op none .c])) [] (ps := ((tollwayref16_SameRejects_L2_p3 a_0 b_1 k5 x11 x13) ++ [((!(((x11.D.Device == x13.D.Device) && ((x11.D.Seq == x13.D.Seq) && ((x11.D.Time == x13.D.Time) && ((x11.D.Tag == x13.D.Tag) && ((x11.D.Plate == x13.D.Plate) && ((x11.D.Axles == x13.D.Axles) && ((x11.D.Score == x13.D.Score) && true))))))) && ((x11.Why == x13.Why) && true))) = false), (IntKind.min .i64 ≤ ((↑k5 : Int) + 1) ∧ ((↑k5 : Int) + 1) ≤ IntKind.max .i64)])) (by kernel_rfl) (by kernel_rfl) (allOk_append.2 ⟨(tollwayref16_SameRejects_L2_p3q a_0 b_1 k5 c10 x11 h12 x13 h14), ⟨(not_f c15), ok1 h16⟩⟩)
theorem tollwayref16_SameRejects_L2_1 (a_0 : (List Tapi_Reject)) (b_1 : (List Tapi_Reject)) (k5 : Nat) (c10 : (↑k5 : Int) < (↑a_0.length : Int)) (x11 : Tapi_Reject) (h12 : a_0[k5]? = some x11) (x13 : Tapi_Reject) (h14 : b_1[k5]? = some x13) (c15 : ¬ ((((x11.D.Device == x13.D.Device) && ((x11.D.Seq == x13.D.Seq) && ((x11.D.Time == x13.D.Time) && ((x11.D.Tag == x13.D.Tag) && ((x11.D.Plate == x13.D.Plate) && ((x11.D.Axles == x13.D.Axles) && ((x11.D.Score == x13.D.Score) && true))))))) && ((x11.Why == x13.Why) && true)) = true)) : Does Tryz.prog GT 0 (bodyAt Tryz.prog 37 [1, 1, 0, 1, 0, 0]) (tollwayref16_SameRejects_L2_H a_0 b_1 k5) .ret (S 26 [(4, .bool false)] []) :=
  Does.of_viewM 0 400 ((tollwayref16_SameRejects_L2_h1) ++ ((tollwayref16_SameRejects_L2_h2 k5 x11 x13) ++ [.br true, .op none .c])) [] (ps := ((tollwayref16_SameRejects_L2_p3 a_0 b_1 k5 x11 x13) ++ [((!(((x11.D.Device == x13.D.Device) && ((x11.D.Seq == x13.D.Seq) && ((x11.D.Time == x13.D.Time) && ((x11.D.Tag == x13.D.Tag) && ((x11.D.Plate == x13.D.Plate) && ((x11.D.Axles == x13.D.Axles) && ((x11.D.Score == x13.D.Score) && true))))))) && ((x11.Why == x13.Why) && true))) = true)])) (by kernel_rfl) (by kernel_rfl) (allOk_append.2 ⟨(tollwayref16_SameRejects_L2_p3q a_0 b_1 k5 c10 x11 h12 x13 h14), (ok1 (not_t (eq_false_of_ne_true c15)))⟩)
theorem tollwayref16_SameRejects_L2_2 (a_0 : (List Tapi_Reject)) (b_1 : (List Tapi_Reject)) (k5 : Nat) (c10 : ¬ ((↑k5 : Int) < (↑a_0.length : Int))) : Does Tryz.prog GT 0 (bodyAt Tryz.prog 37 [1, 1, 0, 1, 0, 0]) (tollwayref16_SameRejects_L2_H a_0 b_1 k5) (.exit 0) (S 26 [] []) :=
  Does.of_viewM 0 400 ((tollwayref16_SameRejects_L2_h1) ++ [.br false]) [] (ps := [((decide ((↑k5 : Int) < (↑a_0.length : Int))) = false)]) (by kernel_rfl) (by kernel_rfl) (ok1 (decide_eq_false c10))
def tollwayref16_SameRejects_L2_X (a_0 : (List Tapi_Reject)) (b_1 : (List Tapi_Reject)) : (Unit ⊕ Unit) → AEx := fun q => match q with | Sum.inl o => .ret | Sum.inr (o) => (.exit 0)
def tollwayref16_SameRejects_L2_E (a_0 : (List Tapi_Reject)) (b_1 : (List Tapi_Reject)) : (Unit ⊕ Unit) → St := fun q => match q with | Sum.inl o => S 26 [(4, .bool false)] [] | Sum.inr (o) => S 26 [] []
theorem tollwayref16_SameRejects_L2_does (a_0 : (List Tapi_Reject)) (b_1 : (List Tapi_Reject)) {s : Nat} {r : Unit ⊕ Unit} (h : lp (tollwayref16_SameRejects_L2_step a_0 b_1) s = some r) : Does Tryz.prog GT 0 (.loop (bodyAt Tryz.prog 37 [1, 1, 0, 1, 0, 0])) (tollwayref16_SameRejects_L2_H a_0 b_1 s) (tollwayref16_SameRejects_L2_X a_0 b_1 r) (tollwayref16_SameRejects_L2_E a_0 b_1 r) := by
  refine Does.lp (H := tollwayref16_SameRejects_L2_H a_0 b_1) (X := tollwayref16_SameRejects_L2_X a_0 b_1) (E := tollwayref16_SameRejects_L2_E a_0 b_1) (fun s s2 h => ?_) (fun s r h => ?_) h
  · revert h; revert s; intro k5 h
    unfold tollwayref16_SameRejects_L2_step at h
    try dsimp only at h
    rcases ite_some h with ⟨c10, h⟩ | ⟨c10, h⟩
    · obtain ⟨x11, h12, h⟩ := bind_some h
      obtain ⟨x13, h14, h⟩ := bind_some h
      rcases ite_some h with ⟨c15, h⟩ | ⟨c15, h⟩
      · obtain ⟨h16, h⟩ := guard_some h
        simp only [Option.some.injEq, Sum.inl.injEq] at h
        subst h
        have hq := tollwayref16_SameRejects_L2_0 a_0 b_1 k5 c10 x11 h12 x13 h14 c15 h16
        first | exact hq | exact Eq.mp (by simp only [tollwayref16_SameRejects_L2_H, List.length_set] <;> rfl) hq
      · simp at h
    · simp at h
  · revert h; revert s; intro k5 h
    unfold tollwayref16_SameRejects_L2_step at h
    try dsimp only at h
    rcases ite_some h with ⟨c10, h⟩ | ⟨c10, h⟩
    · obtain ⟨x11, h12, h⟩ := bind_some h
      obtain ⟨x13, h14, h⟩ := bind_some h
      rcases ite_some h with ⟨c15, h⟩ | ⟨c15, h⟩
      · obtain ⟨h16, h⟩ := guard_some h
        simp at h
      · simp only [Option.some.injEq, Sum.inr.injEq] at h
        subst h
        exact ⟨tollwayref16_SameRejects_L2_1 a_0 b_1 k5 c10 x11 h12 x13 h14 c15, by intro q; cases q⟩
    · simp only [Option.some.injEq, Sum.inr.injEq] at h
      subst h
      exact ⟨tollwayref16_SameRejects_L2_2 a_0 b_1 k5 c10, by intro q; cases q⟩
noncomputable def tollwayref16_SameRejects (a_0 : (List Tapi_Reject)) (b_1 : (List Tapi_Reject)) : Option Bool :=
  if (↑a_0.length : Int) = (↑b_1.length : Int) then
    (lp (tollwayref16_SameRejects_L2_step a_0 b_1) (0 : Nat)).bind fun qq => match qq with
    | Sum.inl o2 =>
      some false
    | Sum.inr (o2) =>
      some true
  else
    some false
def tollwayref16_SameRejects_h1  : List CH := (cs 5 [.op none .a])
def tollwayref16_SameRejects_p2 (a_0 : (List Tapi_Reject)) (b_1 : (List Tapi_Reject)) : List Prop := [((!((↑a_0.length : Int) == (↑b_1.length : Int))) = false), ((.lst (fl Tapi_Reject.enc a_0) a_0.length : AV) = .lst (fl Tapi_Reject.enc a_0) a_0.length), ((.lst (fl Tapi_Reject.enc b_1) b_1.length : AV) = .lst (fl Tapi_Reject.enc b_1) b_1.length), ((.int .i64 0 : AV) = .int .i64 (↑(0 : Nat) : Int))]
theorem tollwayref16_SameRejects_p2q (a_0 : (List Tapi_Reject)) (b_1 : (List Tapi_Reject)) (c1 : (↑a_0.length : Int) = (↑b_1.length : Int)) : allOk (tollwayref16_SameRejects_p2 a_0 b_1) := ⟨(not_f (beq_t c1)), rfl, rfl, ok1 rfl⟩
theorem tollwayref16_SameRejects_0 (a_0 : (List Tapi_Reject)) (b_1 : (List Tapi_Reject)) (c1 : (↑a_0.length : Int) = (↑b_1.length : Int)) (o2 : Unit) (hl2 : lp (tollwayref16_SameRejects_L2_step a_0 b_1) (0 : Nat) = some (Sum.inl o2)) : Ret Tryz.prog GT 37 [.lst (fl Tapi_Reject.enc a_0) a_0.length, .lst (fl Tapi_Reject.enc b_1) b_1.length] (.bool false) [] :=
  Ret.of_view 400 ((tollwayref16_SameRejects_h1) ++ ([.br false, .op none .c] ++ [.fcut 0 .ret [(4, .bool false)] [] [] [(0, .lst (fl Tapi_Reject.enc a_0) a_0.length), (1, .lst (fl Tapi_Reject.enc b_1) b_1.length), (5, .int .i64 (↑(0 : Nat) : Int))] []])) [] (ps := ((tollwayref16_SameRejects_p2 a_0 b_1) ++ [(Does Tryz.prog GT 0 (.loop (bodyAt Tryz.prog 37 [1, 1, 0, 1, 0, 0])) (S 26 [(0, .lst (fl Tapi_Reject.enc a_0) a_0.length), (1, .lst (fl Tapi_Reject.enc b_1) b_1.length), (5, .int .i64 (↑(0 : Nat) : Int))] []) .ret (S 26 [(4, .bool false)] []))])) (by kernel_rfl) (by kernel_rfl) (allOk_append.2 ⟨(tollwayref16_SameRejects_p2q a_0 b_1 c1), (ok1 (tollwayref16_SameRejects_L2_does a_0 b_1 (s := (0 : Nat)) (r := Sum.inl o2) hl2))⟩)
theorem tollwayref16_SameRejects_1 (a_0 : (List Tapi_Reject)) (b_1 : (List Tapi_Reject)) (c1 : (↑a_0.length : Int) = (↑b_1.length : Int)) (o2 : Unit) (hl2 : lp (tollwayref16_SameRejects_L2_step a_0 b_1) (0 : Nat) = some (Sum.inr (o2))) : Ret Tryz.prog GT 37 [.lst (fl Tapi_Reject.enc a_0) a_0.length, .lst (fl Tapi_Reject.enc b_1) b_1.length] (.bool true) [] :=
  Ret.of_view 400 ((tollwayref16_SameRejects_h1) ++ ([.br false, .op none .c] ++ [.fcut 0 (.exit 0) [] [] [] [(0, .lst (fl Tapi_Reject.enc a_0) a_0.length), (1, .lst (fl Tapi_Reject.enc b_1) b_1.length), (5, .int .i64 (↑(0 : Nat) : Int))] [], .op none .c])) [] (ps := ((tollwayref16_SameRejects_p2 a_0 b_1) ++ [(Does Tryz.prog GT 0 (.loop (bodyAt Tryz.prog 37 [1, 1, 0, 1, 0, 0])) (S 26 [(0, .lst (fl Tapi_Reject.enc a_0) a_0.length), (1, .lst (fl Tapi_Reject.enc b_1) b_1.length), (5, .int .i64 (↑(0 : Nat) : Int))] []) (.exit 0) (S 26 [] []))])) (by kernel_rfl) (by kernel_rfl) (allOk_append.2 ⟨(tollwayref16_SameRejects_p2q a_0 b_1 c1), (ok1 (tollwayref16_SameRejects_L2_does a_0 b_1 (s := (0 : Nat)) (r := Sum.inr (o2)) hl2))⟩)
theorem tollwayref16_SameRejects_2 (a_0 : (List Tapi_Reject)) (b_1 : (List Tapi_Reject)) (c1 : ¬ ((↑a_0.length : Int) = (↑b_1.length : Int))) : Ret Tryz.prog GT 37 [.lst (fl Tapi_Reject.enc a_0) a_0.length, .lst (fl Tapi_Reject.enc b_1) b_1.length] (.bool false) [] :=
  Ret.of_view 400 ((tollwayref16_SameRejects_h1) ++ [.br true, .op none .c]) [] (ps := [((!((↑a_0.length : Int) == (↑b_1.length : Int))) = true)]) (by kernel_rfl) (by kernel_rfl) (ok1 (not_t (beq_f c1)))
theorem tollwayref16_SameRejects_ret (a_0 : (List Tapi_Reject)) (b_1 : (List Tapi_Reject)) (r : Bool) (h : tollwayref16_SameRejects a_0 b_1 = some r) : Ret Tryz.prog GT 37 [.lst (fl Tapi_Reject.enc a_0) a_0.length, .lst (fl Tapi_Reject.enc b_1) b_1.length] (.bool r) [] := by
  unfold tollwayref16_SameRejects at h
  rcases ite_some h with ⟨c1, h⟩ | ⟨c1, h⟩
  · obtain ⟨qq, hl2, h⟩ := bind_some h
    rcases qq with o2 | o2
    · dsimp only at h
      simp only [Option.some.injEq] at h
      subst h
      exact tollwayref16_SameRejects_0 a_0 b_1 c1 o2 hl2
    · dsimp only at h
      simp only [Option.some.injEq] at h
      subst h
      exact tollwayref16_SameRejects_1 a_0 b_1 c1 o2 hl2
  · simp only [Option.some.injEq] at h
    subst h
    exact tollwayref16_SameRejects_2 a_0 b_1 c1
noncomputable def tollwayref21_One_L6_step (a_0 : Tapi_Trip) (b_1 : Tapi_Trip) : Nat → Option (Nat ⊕ (Unit ⊕ Unit)) := fun k5 =>
  if (↑k5 : Int) < (↑a_0.Stops.length : Int) then
    (a_0.Stops[k5]?).bind fun x15 =>
    (b_1.Stops[k5]?).bind fun x17 =>
    if ((x15.Point == x17.Point) && ((x15.Time == x17.Time) && ((x15.Passage == x17.Passage) && true))) = true then
      if InR .i64 ((↑k5 : Int) + 1) then
        some (Sum.inl (k5 + 1))
      else none
    else
      some (Sum.inr (Sum.inl ()))
  else
    some (Sum.inr (Sum.inr (())))
def tollwayref21_One_L6_H (a_0 : Tapi_Trip) (b_1 : Tapi_Trip) : Nat → St := fun (s : Nat) => S 59 [(2, .ptr 0 0), (3, .ptr 1 0), (5, .int .i64 (↑s : Int))] [(bT (Tapi_Trip.enc a_0) 90), (bT (Tapi_Trip.enc b_1) 90)]
def tollwayref21_One_L6_h1  : List CH := (cs 4 [.op none .a])
def tollwayref21_One_L6_h2 (k5 : Nat) (x15 : Tapi_Stop) (x17 : Tapi_Stop) : List CH := ((.br true) :: (cs 3 ((.op none (.i k5)) :: (.op none (.v [.str x15.Point, .int .i64 x15.Time, .str x15.Passage])) :: (cs 3 [.op none (.i k5), .op none (.v [.str x17.Point, .int .i64 x17.Time, .str x17.Passage]), .op none .c]))))
def tollwayref21_One_L6_p3 (a_0 : Tapi_Trip) (b_1 : Tapi_Trip) (k5 : Nat) (x15 : Tapi_Stop) (x17 : Tapi_Stop) : List Prop := [((decide ((↑k5 : Int) < (↑a_0.Stops.length : Int))) = true), ((↑k5 : Int) = ((k5 : Nat) : Int) ∧ k5 < a_0.Stops.length), ((fl Tapi_Stop.enc a_0.Stops) ≠ []), (sub (fl Tapi_Stop.enc a_0.Stops) (k5 * 3) 3 = [.str x15.Point, .int .i64 x15.Time, .str x15.Passage]), ((↑k5 : Int) = ((k5 : Nat) : Int) ∧ k5 < b_1.Stops.length), ((fl Tapi_Stop.enc b_1.Stops) ≠ []), (sub (fl Tapi_Stop.enc b_1.Stops) (k5 * 3) 3 = [.str x17.Point, .int .i64 x17.Time, .str x17.Passage])]
theorem tollwayref21_One_L6_p3q (a_0 : Tapi_Trip) (b_1 : Tapi_Trip) (k5 : Nat) (c14 : (↑k5 : Int) < (↑a_0.Stops.length : Int)) (x15 : Tapi_Stop) (h16 : a_0.Stops[k5]? = some x15) (x17 : Tapi_Stop) (h18 : b_1.Stops[k5]? = some x17) : allOk (tollwayref21_One_L6_p3 a_0 b_1 k5 x15 x17) := ⟨(decide_eq_true c14), ⟨rfl, get_lt h16⟩, (fl_ne (f := Tapi_Stop.enc) (z := 2) (fun _ => rfl) h16), (fl_sub0 (f := Tapi_Stop.enc) (z := 3) (j := k5) (fun _ => rfl) h16 rfl), ⟨rfl, get_lt h18⟩, (fl_ne (f := Tapi_Stop.enc) (z := 2) (fun _ => rfl) h18), ok1 (fl_sub0 (f := Tapi_Stop.enc) (z := 3) (j := k5) (fun _ => rfl) h18 rfl)⟩
theorem tollwayref21_One_L6_0 (a_0 : Tapi_Trip) (b_1 : Tapi_Trip) (k5 : Nat) (c14 : (↑k5 : Int) < (↑a_0.Stops.length : Int)) (x15 : Tapi_Stop) (h16 : a_0.Stops[k5]? = some x15) (x17 : Tapi_Stop) (h18 : b_1.Stops[k5]? = some x17) (c19 : ((x15.Point == x17.Point) && ((x15.Time == x17.Time) && ((x15.Passage == x17.Passage) && true))) = true) (h20 : InR .i64 ((↑k5 : Int) + 1)) : Does Tryz.prog GT 2 (bodyAt Tryz.prog 78 [1, 1, 0, 1, 0, 0]) (tollwayref21_One_L6_H a_0 b_1 k5) .normal (S 59 [(2, .ptr 0 0), (3, .ptr 1 0), (5, .int .i64 ((↑k5 : Int) + 1))] [(bT (Tapi_Trip.enc a_0) 90), (bT (Tapi_Trip.enc b_1) 90)]) :=
  Does.of_viewM 2 400 ((tollwayref21_One_L6_h1) ++ ((tollwayref21_One_L6_h2 k5 x15 x17) ++ [.br false, .op none .c, .op none .w, .op none .c])) [0, 1] (ps := ((tollwayref21_One_L6_p3 a_0 b_1 k5 x15 x17) ++ [((!((x15.Point == x17.Point) && ((x15.Time == x17.Time) && ((x15.Passage == x17.Passage) && true)))) = false), (IntKind.min .i64 ≤ ((↑k5 : Int) + 1) ∧ ((↑k5 : Int) + 1) ≤ IntKind.max .i64)])) (by kernel_rfl) (by kernel_rfl) (allOk_append.2 ⟨(tollwayref21_One_L6_p3q a_0 b_1 k5 c14 x15 h16 x17 h18), ⟨(not_f c19), ok1 h20⟩⟩)
theorem tollwayref21_One_L6_1 (a_0 : Tapi_Trip) (b_1 : Tapi_Trip) (k5 : Nat) (c14 : (↑k5 : Int) < (↑a_0.Stops.length : Int)) (x15 : Tapi_Stop) (h16 : a_0.Stops[k5]? = some x15) (x17 : Tapi_Stop) (h18 : b_1.Stops[k5]? = some x17) (c19 : ¬ (((x15.Point == x17.Point) && ((x15.Time == x17.Time) && ((x15.Passage == x17.Passage) && true))) = true)) : Does Tryz.prog GT 2 (bodyAt Tryz.prog 78 [1, 1, 0, 1, 0, 0]) (tollwayref21_One_L6_H a_0 b_1 k5) .ret (S 59 [(4, .bool false)] [(bT (Tapi_Trip.enc a_0) 90), (bT (Tapi_Trip.enc b_1) 90)]) :=
  Does.of_viewM 2 400 ((tollwayref21_One_L6_h1) ++ ((tollwayref21_One_L6_h2 k5 x15 x17) ++ [.br true, .op none .c])) [0, 1] (ps := ((tollwayref21_One_L6_p3 a_0 b_1 k5 x15 x17) ++ [((!((x15.Point == x17.Point) && ((x15.Time == x17.Time) && ((x15.Passage == x17.Passage) && true)))) = true)])) (by kernel_rfl) (by kernel_rfl) (allOk_append.2 ⟨(tollwayref21_One_L6_p3q a_0 b_1 k5 c14 x15 h16 x17 h18), (ok1 (not_t (eq_false_of_ne_true c19)))⟩)
theorem tollwayref21_One_L6_2 (a_0 : Tapi_Trip) (b_1 : Tapi_Trip) (k5 : Nat) (c14 : ¬ ((↑k5 : Int) < (↑a_0.Stops.length : Int))) : Does Tryz.prog GT 2 (bodyAt Tryz.prog 78 [1, 1, 0, 1, 0, 0]) (tollwayref21_One_L6_H a_0 b_1 k5) (.exit 0) (S 59 [] [(bT (Tapi_Trip.enc a_0) 90), (bT (Tapi_Trip.enc b_1) 90)]) :=
  Does.of_viewM 2 400 ((tollwayref21_One_L6_h1) ++ [.br false]) [0, 1] (ps := [((decide ((↑k5 : Int) < (↑a_0.Stops.length : Int))) = false)]) (by kernel_rfl) (by kernel_rfl) (ok1 (decide_eq_false c14))
def tollwayref21_One_L6_X (a_0 : Tapi_Trip) (b_1 : Tapi_Trip) : (Unit ⊕ Unit) → AEx := fun q => match q with | Sum.inl o => .ret | Sum.inr (o) => (.exit 0)
def tollwayref21_One_L6_E (a_0 : Tapi_Trip) (b_1 : Tapi_Trip) : (Unit ⊕ Unit) → St := fun q => match q with | Sum.inl o => S 59 [(4, .bool false)] [(bT (Tapi_Trip.enc a_0) 90), (bT (Tapi_Trip.enc b_1) 90)] | Sum.inr (o) => S 59 [] [(bT (Tapi_Trip.enc a_0) 90), (bT (Tapi_Trip.enc b_1) 90)]
theorem tollwayref21_One_L6_does (a_0 : Tapi_Trip) (b_1 : Tapi_Trip) {s : Nat} {r : Unit ⊕ Unit} (h : lp (tollwayref21_One_L6_step a_0 b_1) s = some r) : Does Tryz.prog GT 2 (.loop (bodyAt Tryz.prog 78 [1, 1, 0, 1, 0, 0])) (tollwayref21_One_L6_H a_0 b_1 s) (tollwayref21_One_L6_X a_0 b_1 r) (tollwayref21_One_L6_E a_0 b_1 r) := by
  refine Does.lp (H := tollwayref21_One_L6_H a_0 b_1) (X := tollwayref21_One_L6_X a_0 b_1) (E := tollwayref21_One_L6_E a_0 b_1) (fun s s2 h => ?_) (fun s r h => ?_) h
  · revert h; revert s; intro k5 h
    unfold tollwayref21_One_L6_step at h
    try dsimp only at h
    rcases ite_some h with ⟨c14, h⟩ | ⟨c14, h⟩
    · obtain ⟨x15, h16, h⟩ := bind_some h
      obtain ⟨x17, h18, h⟩ := bind_some h
      rcases ite_some h with ⟨c19, h⟩ | ⟨c19, h⟩
      · obtain ⟨h20, h⟩ := guard_some h
        simp only [Option.some.injEq, Sum.inl.injEq] at h
        subst h
        have hq := tollwayref21_One_L6_0 a_0 b_1 k5 c14 x15 h16 x17 h18 c19 h20
        first | exact hq | exact Eq.mp (by simp only [tollwayref21_One_L6_H, List.length_set] <;> rfl) hq
      · simp at h
    · simp at h
  · revert h; revert s; intro k5 h
    unfold tollwayref21_One_L6_step at h
    try dsimp only at h
    rcases ite_some h with ⟨c14, h⟩ | ⟨c14, h⟩
    · obtain ⟨x15, h16, h⟩ := bind_some h
      obtain ⟨x17, h18, h⟩ := bind_some h
      rcases ite_some h with ⟨c19, h⟩ | ⟨c19, h⟩
      · obtain ⟨h20, h⟩ := guard_some h
        simp at h
      · simp only [Option.some.injEq, Sum.inr.injEq] at h
        subst h
        exact ⟨tollwayref21_One_L6_1 a_0 b_1 k5 c14 x15 h16 x17 h18 c19, by intro q; cases q⟩
    · simp only [Option.some.injEq, Sum.inr.injEq] at h
      subst h
      exact ⟨tollwayref21_One_L6_2 a_0 b_1 k5 c14, by intro q; cases q⟩
noncomputable def tollwayref21_One (a_0 : Tapi_Trip) (b_1 : Tapi_Trip) : Option Bool :=
  if a_0.ID = b_1.ID then
    if a_0.Vehicle = b_1.Vehicle then
      if a_0.System = b_1.System then
        if a_0.Class = b_1.Class then
          if (↑a_0.Stops.length : Int) = (↑b_1.Stops.length : Int) then
            (lp (tollwayref21_One_L6_step a_0 b_1) (0 : Nat)).bind fun qq => match qq with
            | Sum.inl o6 =>
              some false
            | Sum.inr (o6) =>
              some true
          else
            some false
        else
          some false
      else
        some false
    else
      some false
  else
    some false
def tollwayref21_One_h1  : List CH := (cs 7 [.op none .a, .op none .c])
def tollwayref21_One_h2  : List CH := ((.op (some false) .c) :: (cs 3 ((.op none .a) :: (cs 2 []))))
def tollwayref21_One_h3  : List CH := ((.op (some false) .c) :: (cs 3 ((.op none .a) :: (cs 2 []))))
def tollwayref21_One_h4  : List CH := ((.op (some false) .c) :: (cs 3 ((.op none .a) :: (cs 2 []))))
def tollwayref21_One_h5  : List CH := ((.op (some false) .c) :: (cs 5 [.op none .a, .op none .c]))
def tollwayref21_One_p6 (a_0 : Tapi_Trip) (b_1 : Tapi_Trip) : List Prop := [((!((↑a_0.Stops.length : Int) == (↑b_1.Stops.length : Int))) = false), ((.ptr 0 0 : AV) = .ptr 0 0), ((.ptr 1 0 : AV) = .ptr 1 0), ((.int .i64 0 : AV) = .int .i64 (↑(0 : Nat) : Int)), (((bT (Tapi_Trip.enc a_0) 90) : Blk) = renB [0, 1] (bT (Tapi_Trip.enc a_0) 90)), (((bT (Tapi_Trip.enc b_1) 90) : Blk) = renB [0, 1] (bT (Tapi_Trip.enc b_1) 90))]
theorem tollwayref21_One_p6q (a_0 : Tapi_Trip) (b_1 : Tapi_Trip) (c5 : (↑a_0.Stops.length : Int) = (↑b_1.Stops.length : Int)) : allOk (tollwayref21_One_p6 a_0 b_1) := ⟨(not_f (beq_t c5)), rfl, rfl, rfl, rfl, ok1 rfl⟩
theorem tollwayref21_One_0 (a_0 : Tapi_Trip) (b_1 : Tapi_Trip) (c1 : a_0.ID = b_1.ID) (c2 : a_0.Vehicle = b_1.Vehicle) (c3 : a_0.System = b_1.System) (c4 : a_0.Class = b_1.Class) (c5 : (↑a_0.Stops.length : Int) = (↑b_1.Stops.length : Int)) (o6 : Unit) (hl6 : lp (tollwayref21_One_L6_step a_0 b_1) (0 : Nat) = some (Sum.inl o6)) : Ret Tryz.prog GT 78 [.agg (Tapi_Trip.enc a_0), .agg (Tapi_Trip.enc b_1)] (.bool false) [] :=
  Ret.of_view 400 ((tollwayref21_One_h1) ++ ((tollwayref21_One_h2) ++ ((tollwayref21_One_h3) ++ ((tollwayref21_One_h4) ++ ((tollwayref21_One_h5) ++ ([.br false, .op none .c] ++ [.fcut 2 .ret [(4, .bool false)] [(bT (Tapi_Trip.enc a_0) 90), (bT (Tapi_Trip.enc b_1) 90)] [0, 1] [(2, .ptr 0 0), (3, .ptr 1 0), (5, .int .i64 (↑(0 : Nat) : Int))] [(bT (Tapi_Trip.enc a_0) 90), (bT (Tapi_Trip.enc b_1) 90)]])))))) [] (ps := ([((!(a_0.ID == b_1.ID)) = false)] ++ ([((!(a_0.Vehicle == b_1.Vehicle)) = false)] ++ ([((!(a_0.System == b_1.System)) = false)] ++ ([((!(a_0.Class == b_1.Class)) = false)] ++ ((tollwayref21_One_p6 a_0 b_1) ++ [(Does Tryz.prog GT 2 (.loop (bodyAt Tryz.prog 78 [1, 1, 0, 1, 0, 0])) (S 59 [(2, .ptr 0 0), (3, .ptr 1 0), (5, .int .i64 (↑(0 : Nat) : Int))] [(bT (Tapi_Trip.enc a_0) 90), (bT (Tapi_Trip.enc b_1) 90)]) .ret (S 59 [(4, .bool false)] [(bT (Tapi_Trip.enc a_0) 90), (bT (Tapi_Trip.enc b_1) 90)]))])))))) (by kernel_rfl) (by kernel_rfl) (allOk_append.2 ⟨(ok1 (not_f (beq_t c1))), (allOk_append.2 ⟨(ok1 (not_f (beq_t c2))), (allOk_append.2 ⟨(ok1 (not_f (beq_t c3))), (allOk_append.2 ⟨(ok1 (not_f (beq_t c4))), (allOk_append.2 ⟨(tollwayref21_One_p6q a_0 b_1 c5), (ok1 (tollwayref21_One_L6_does a_0 b_1 (s := (0 : Nat)) (r := Sum.inl o6) hl6))⟩)⟩)⟩)⟩)⟩)
theorem tollwayref21_One_1 (a_0 : Tapi_Trip) (b_1 : Tapi_Trip) (c1 : a_0.ID = b_1.ID) (c2 : a_0.Vehicle = b_1.Vehicle) (c3 : a_0.System = b_1.System) (c4 : a_0.Class = b_1.Class) (c5 : (↑a_0.Stops.length : Int) = (↑b_1.Stops.length : Int)) (o6 : Unit) (hl6 : lp (tollwayref21_One_L6_step a_0 b_1) (0 : Nat) = some (Sum.inr (o6))) : Ret Tryz.prog GT 78 [.agg (Tapi_Trip.enc a_0), .agg (Tapi_Trip.enc b_1)] (.bool true) [] :=
  Ret.of_view 400 ((tollwayref21_One_h1) ++ ((tollwayref21_One_h2) ++ ((tollwayref21_One_h3) ++ ((tollwayref21_One_h4) ++ ((tollwayref21_One_h5) ++ ([.br false, .op none .c] ++ [.fcut 2 (.exit 0) [] [(bT (Tapi_Trip.enc a_0) 90), (bT (Tapi_Trip.enc b_1) 90)] [0, 1] [(2, .ptr 0 0), (3, .ptr 1 0), (5, .int .i64 (↑(0 : Nat) : Int))] [(bT (Tapi_Trip.enc a_0) 90), (bT (Tapi_Trip.enc b_1) 90)], .op none .c])))))) [] (ps := ([((!(a_0.ID == b_1.ID)) = false)] ++ ([((!(a_0.Vehicle == b_1.Vehicle)) = false)] ++ ([((!(a_0.System == b_1.System)) = false)] ++ ([((!(a_0.Class == b_1.Class)) = false)] ++ ((tollwayref21_One_p6 a_0 b_1) ++ [(Does Tryz.prog GT 2 (.loop (bodyAt Tryz.prog 78 [1, 1, 0, 1, 0, 0])) (S 59 [(2, .ptr 0 0), (3, .ptr 1 0), (5, .int .i64 (↑(0 : Nat) : Int))] [(bT (Tapi_Trip.enc a_0) 90), (bT (Tapi_Trip.enc b_1) 90)]) (.exit 0) (S 59 [] [(bT (Tapi_Trip.enc a_0) 90), (bT (Tapi_Trip.enc b_1) 90)]))])))))) (by kernel_rfl) (by kernel_rfl) (allOk_append.2 ⟨(ok1 (not_f (beq_t c1))), (allOk_append.2 ⟨(ok1 (not_f (beq_t c2))), (allOk_append.2 ⟨(ok1 (not_f (beq_t c3))), (allOk_append.2 ⟨(ok1 (not_f (beq_t c4))), (allOk_append.2 ⟨(tollwayref21_One_p6q a_0 b_1 c5), (ok1 (tollwayref21_One_L6_does a_0 b_1 (s := (0 : Nat)) (r := Sum.inr (o6)) hl6))⟩)⟩)⟩)⟩)⟩)
theorem tollwayref21_One_2 (a_0 : Tapi_Trip) (b_1 : Tapi_Trip) (c1 : a_0.ID = b_1.ID) (c2 : a_0.Vehicle = b_1.Vehicle) (c3 : a_0.System = b_1.System) (c4 : a_0.Class = b_1.Class) (c5 : ¬ ((↑a_0.Stops.length : Int) = (↑b_1.Stops.length : Int))) : Ret Tryz.prog GT 78 [.agg (Tapi_Trip.enc a_0), .agg (Tapi_Trip.enc b_1)] (.bool false) [] :=
  Ret.of_view 400 ((tollwayref21_One_h1) ++ ((tollwayref21_One_h2) ++ ((tollwayref21_One_h3) ++ ((tollwayref21_One_h4) ++ ((tollwayref21_One_h5) ++ [.br true, .op none .c]))))) [] (ps := ([((!(a_0.ID == b_1.ID)) = false)] ++ ([((!(a_0.Vehicle == b_1.Vehicle)) = false)] ++ ([((!(a_0.System == b_1.System)) = false)] ++ ([((!(a_0.Class == b_1.Class)) = false)] ++ [((!((↑a_0.Stops.length : Int) == (↑b_1.Stops.length : Int))) = true)]))))) (by kernel_rfl) (by kernel_rfl) (allOk_append.2 ⟨(ok1 (not_f (beq_t c1))), (allOk_append.2 ⟨(ok1 (not_f (beq_t c2))), (allOk_append.2 ⟨(ok1 (not_f (beq_t c3))), (allOk_append.2 ⟨(ok1 (not_f (beq_t c4))), (ok1 (not_t (beq_f c5)))⟩)⟩)⟩)⟩)
theorem tollwayref21_One_3 (a_0 : Tapi_Trip) (b_1 : Tapi_Trip) (c1 : a_0.ID = b_1.ID) (c2 : a_0.Vehicle = b_1.Vehicle) (c3 : a_0.System = b_1.System) (c4 : ¬ (a_0.Class = b_1.Class)) : Ret Tryz.prog GT 78 [.agg (Tapi_Trip.enc a_0), .agg (Tapi_Trip.enc b_1)] (.bool false) [] :=
  Ret.of_view 400 ((tollwayref21_One_h1) ++ ((tollwayref21_One_h2) ++ ((tollwayref21_One_h3) ++ ((tollwayref21_One_h4) ++ ((.op (some true) .c) :: (cs 7 [.br true, .op none .c])))))) [] (ps := ([((!(a_0.ID == b_1.ID)) = false)] ++ ([((!(a_0.Vehicle == b_1.Vehicle)) = false)] ++ ([((!(a_0.System == b_1.System)) = false)] ++ [((!(a_0.Class == b_1.Class)) = true), (true = true)])))) (by kernel_rfl) (by kernel_rfl) (allOk_append.2 ⟨(ok1 (not_f (beq_t c1))), (allOk_append.2 ⟨(ok1 (not_f (beq_t c2))), (allOk_append.2 ⟨(ok1 (not_f (beq_t c3))), ⟨(not_t (beq_f c4)), ok1 rfl⟩⟩)⟩)⟩)
theorem tollwayref21_One_4 (a_0 : Tapi_Trip) (b_1 : Tapi_Trip) (c1 : a_0.ID = b_1.ID) (c2 : a_0.Vehicle = b_1.Vehicle) (c3 : ¬ (a_0.System = b_1.System)) : Ret Tryz.prog GT 78 [.agg (Tapi_Trip.enc a_0), .agg (Tapi_Trip.enc b_1)] (.bool false) [] :=
  Ret.of_view 400 ((tollwayref21_One_h1) ++ ((tollwayref21_One_h2) ++ ((tollwayref21_One_h3) ++ ((.op (some true) .c) :: (cs 14 [.br true, .op none .c]))))) [] (ps := ([((!(a_0.ID == b_1.ID)) = false)] ++ ([((!(a_0.Vehicle == b_1.Vehicle)) = false)] ++ [((!(a_0.System == b_1.System)) = true), (true = true)]))) (by kernel_rfl) (by kernel_rfl) (allOk_append.2 ⟨(ok1 (not_f (beq_t c1))), (allOk_append.2 ⟨(ok1 (not_f (beq_t c2))), ⟨(not_t (beq_f c3)), ok1 rfl⟩⟩)⟩)
theorem tollwayref21_One_5 (a_0 : Tapi_Trip) (b_1 : Tapi_Trip) (c1 : a_0.ID = b_1.ID) (c2 : ¬ (a_0.Vehicle = b_1.Vehicle)) : Ret Tryz.prog GT 78 [.agg (Tapi_Trip.enc a_0), .agg (Tapi_Trip.enc b_1)] (.bool false) [] :=
  Ret.of_view 400 ((tollwayref21_One_h1) ++ ((tollwayref21_One_h2) ++ ((.op (some true) .c) :: (cs 21 [.br true, .op none .c])))) [] (ps := ([((!(a_0.ID == b_1.ID)) = false)] ++ [((!(a_0.Vehicle == b_1.Vehicle)) = true), (true = true)])) (by kernel_rfl) (by kernel_rfl) (allOk_append.2 ⟨(ok1 (not_f (beq_t c1))), ⟨(not_t (beq_f c2)), ok1 rfl⟩⟩)
theorem tollwayref21_One_6 (a_0 : Tapi_Trip) (b_1 : Tapi_Trip) (c1 : ¬ (a_0.ID = b_1.ID)) : Ret Tryz.prog GT 78 [.agg (Tapi_Trip.enc a_0), .agg (Tapi_Trip.enc b_1)] (.bool false) [] :=
  Ret.of_view 400 ((tollwayref21_One_h1) ++ ((.op (some true) .c) :: (cs 28 [.br true, .op none .c]))) [] (ps := [((!(a_0.ID == b_1.ID)) = true), (true = true)]) (by kernel_rfl) (by kernel_rfl) ⟨(not_t (beq_f c1)), ok1 rfl⟩
theorem tollwayref21_One_ret (a_0 : Tapi_Trip) (b_1 : Tapi_Trip) (r : Bool) (h : tollwayref21_One a_0 b_1 = some r) : Ret Tryz.prog GT 78 [.agg (Tapi_Trip.enc a_0), .agg (Tapi_Trip.enc b_1)] (.bool r) [] := by
  unfold tollwayref21_One at h
  rcases ite_some h with ⟨c1, h⟩ | ⟨c1, h⟩
  · rcases ite_some h with ⟨c2, h⟩ | ⟨c2, h⟩
    · rcases ite_some h with ⟨c3, h⟩ | ⟨c3, h⟩
      · rcases ite_some h with ⟨c4, h⟩ | ⟨c4, h⟩
        · rcases ite_some h with ⟨c5, h⟩ | ⟨c5, h⟩
          · obtain ⟨qq, hl6, h⟩ := bind_some h
            rcases qq with o6 | o6
            · dsimp only at h
              simp only [Option.some.injEq] at h
              subst h
              exact tollwayref21_One_0 a_0 b_1 c1 c2 c3 c4 c5 o6 hl6
            · dsimp only at h
              simp only [Option.some.injEq] at h
              subst h
              exact tollwayref21_One_1 a_0 b_1 c1 c2 c3 c4 c5 o6 hl6
          · simp only [Option.some.injEq] at h
            subst h
            exact tollwayref21_One_2 a_0 b_1 c1 c2 c3 c4 c5
        · simp only [Option.some.injEq] at h
          subst h
          exact tollwayref21_One_3 a_0 b_1 c1 c2 c3 c4
      · simp only [Option.some.injEq] at h
        subst h
        exact tollwayref21_One_4 a_0 b_1 c1 c2 c3
    · simp only [Option.some.injEq] at h
      subst h
      exact tollwayref21_One_5 a_0 b_1 c1 c2
  · simp only [Option.some.injEq] at h
    subst h
    exact tollwayref21_One_6 a_0 b_1 c1
noncomputable def tollwayref21_Same_L2_step (a_0 : (List Tapi_Trip)) (b_1 : (List Tapi_Trip)) : Nat → Option (Nat ⊕ (Unit ⊕ Unit)) := fun k5 =>
  if (↑k5 : Int) < (↑a_0.length : Int) then
    (a_0[k5]?).bind fun x13 =>
    (b_1[k5]?).bind fun x15 =>
    (tollwayref21_One x13 x15).bind fun r17 =>
    if r17 = true then
      if InR .i64 ((↑k5 : Int) + 1) then
        some (Sum.inl (k5 + 1))
      else none
    else
      some (Sum.inr (Sum.inl ()))
  else
    some (Sum.inr (Sum.inr (())))
def tollwayref21_Same_L2_H (a_0 : (List Tapi_Trip)) (b_1 : (List Tapi_Trip)) : Nat → St := fun (s : Nat) => S 27 [(0, .lst (fl Tapi_Trip.enc a_0) a_0.length), (1, .lst (fl Tapi_Trip.enc b_1) b_1.length), (5, .int .i64 (↑s : Int))] []
def tollwayref21_Same_L2_h1  : List CH := (cs 3 [.op none .a])
def tollwayref21_Same_L2_h2 (k5 : Nat) (x13 : Tapi_Trip) (x15 : Tapi_Trip) (r17 : Bool) : List CH := ((.br true) :: (cs 2 ((.op none (.i k5)) :: (.op none (.v [.str x13.ID, .str x13.Vehicle, .str x13.System, .int .i64 x13.Class, .lst (fl Tapi_Stop.enc x13.Stops) x13.Stops.length])) :: (cs 2 [.op none (.i k5), .op none (.v [.str x15.ID, .str x15.Vehicle, .str x15.System, .int .i64 x15.Class, .lst (fl Tapi_Stop.enc x15.Stops) x15.Stops.length]), .ret none [.agg (Tapi_Trip.enc x13), .agg (Tapi_Trip.enc x15)] (.bool r17) [], .op none .c]))))
def tollwayref21_Same_L2_p3 (a_0 : (List Tapi_Trip)) (b_1 : (List Tapi_Trip)) (k5 : Nat) (x13 : Tapi_Trip) (x15 : Tapi_Trip) (r17 : Bool) : List Prop := [((decide ((↑k5 : Int) < (↑a_0.length : Int))) = true), ((↑k5 : Int) = ((k5 : Nat) : Int) ∧ k5 < a_0.length), ((fl Tapi_Trip.enc a_0) ≠ []), (sub (fl Tapi_Trip.enc a_0) (k5 * 5) 5 = [.str x13.ID, .str x13.Vehicle, .str x13.System, .int .i64 x13.Class, .lst (fl Tapi_Stop.enc x13.Stops) x13.Stops.length]), ((↑k5 : Int) = ((k5 : Nat) : Int) ∧ k5 < b_1.length), ((fl Tapi_Trip.enc b_1) ≠ []), (sub (fl Tapi_Trip.enc b_1) (k5 * 5) 5 = [.str x15.ID, .str x15.Vehicle, .str x15.System, .int .i64 x15.Class, .lst (fl Tapi_Stop.enc x15.Stops) x15.Stops.length]), ((.agg (Tapi_Trip.enc x13) : AV) = .agg (Tapi_Trip.enc x13)), ((.agg (Tapi_Trip.enc x15) : AV) = .agg (Tapi_Trip.enc x15)), (Ret Tryz.prog GT 78 [.agg (Tapi_Trip.enc x13), .agg (Tapi_Trip.enc x15)] (.bool r17) [])]
theorem tollwayref21_Same_L2_p3q (a_0 : (List Tapi_Trip)) (b_1 : (List Tapi_Trip)) (k5 : Nat) (c12 : (↑k5 : Int) < (↑a_0.length : Int)) (x13 : Tapi_Trip) (h14 : a_0[k5]? = some x13) (x15 : Tapi_Trip) (h16 : b_1[k5]? = some x15) (r17 : Bool) (h18 : tollwayref21_One x13 x15 = some r17) : allOk (tollwayref21_Same_L2_p3 a_0 b_1 k5 x13 x15 r17) := ⟨(decide_eq_true c12), ⟨rfl, get_lt h14⟩, (fl_ne (f := Tapi_Trip.enc) (z := 4) (fun _ => rfl) h14), (fl_sub0 (f := Tapi_Trip.enc) (z := 5) (j := k5) (fun _ => rfl) h14 rfl), ⟨rfl, get_lt h16⟩, (fl_ne (f := Tapi_Trip.enc) (z := 4) (fun _ => rfl) h16), (fl_sub0 (f := Tapi_Trip.enc) (z := 5) (j := k5) (fun _ => rfl) h16 rfl), rfl, rfl, ok1 (tollwayref21_One_ret x13 x15 r17 h18)⟩
theorem tollwayref21_Same_L2_0 (a_0 : (List Tapi_Trip)) (b_1 : (List Tapi_Trip)) (k5 : Nat) (c12 : (↑k5 : Int) < (↑a_0.length : Int)) (x13 : Tapi_Trip) (h14 : a_0[k5]? = some x13) (x15 : Tapi_Trip) (h16 : b_1[k5]? = some x15) (r17 : Bool) (h18 : tollwayref21_One x13 x15 = some r17) (c19 : r17 = true) (h20 : InR .i64 ((↑k5 : Int) + 1)) : Does Tryz.prog GT 0 (bodyAt Tryz.prog 38 [1, 1, 0, 1, 0, 0]) (tollwayref21_Same_L2_H a_0 b_1 k5) .normal (S 27 [(0, .lst (fl Tapi_Trip.enc a_0) a_0.length), (1, .lst (fl Tapi_Trip.enc b_1) b_1.length), (5, .int .i64 ((↑k5 : Int) + 1))] []) :=
  Does.of_viewM 0 400 ((tollwayref21_Same_L2_h1) ++ ((tollwayref21_Same_L2_h2 k5 x13 x15 r17) ++ [.br false, .op none .c, .op none .w, .op none .c])) [] (ps := ((tollwayref21_Same_L2_p3 a_0 b_1 k5 x13 x15 r17) ++ [((!r17) = false), (IntKind.min .i64 ≤ ((↑k5 : Int) + 1) ∧ ((↑k5 : Int) + 1) ≤ IntKind.max .i64)])) (by kernel_rfl) (by kernel_rfl) (allOk_append.2 ⟨(tollwayref21_Same_L2_p3q a_0 b_1 k5 c12 x13 h14 x15 h16 r17 h18), ⟨(not_f c19), ok1 h20⟩⟩)
theorem tollwayref21_Same_L2_1 (a_0 : (List Tapi_Trip)) (b_1 : (List Tapi_Trip)) (k5 : Nat) (c12 : (↑k5 : Int) < (↑a_0.length : Int)) (x13 : Tapi_Trip) (h14 : a_0[k5]? = some x13) (x15 : Tapi_Trip) (h16 : b_1[k5]? = some x15) (r17 : Bool) (h18 : tollwayref21_One x13 x15 = some r17) (c19 : ¬ (r17 = true)) : Does Tryz.prog GT 0 (bodyAt Tryz.prog 38 [1, 1, 0, 1, 0, 0]) (tollwayref21_Same_L2_H a_0 b_1 k5) .ret (S 27 [(4, .bool false)] []) :=
  Does.of_viewM 0 400 ((tollwayref21_Same_L2_h1) ++ ((tollwayref21_Same_L2_h2 k5 x13 x15 r17) ++ [.br true, .op none .c])) [] (ps := ((tollwayref21_Same_L2_p3 a_0 b_1 k5 x13 x15 r17) ++ [((!r17) = true)])) (by kernel_rfl) (by kernel_rfl) (allOk_append.2 ⟨(tollwayref21_Same_L2_p3q a_0 b_1 k5 c12 x13 h14 x15 h16 r17 h18), (ok1 (not_t (eq_false_of_ne_true c19)))⟩)
theorem tollwayref21_Same_L2_2 (a_0 : (List Tapi_Trip)) (b_1 : (List Tapi_Trip)) (k5 : Nat) (c12 : ¬ ((↑k5 : Int) < (↑a_0.length : Int))) : Does Tryz.prog GT 0 (bodyAt Tryz.prog 38 [1, 1, 0, 1, 0, 0]) (tollwayref21_Same_L2_H a_0 b_1 k5) (.exit 0) (S 27 [] []) :=
  Does.of_viewM 0 400 ((tollwayref21_Same_L2_h1) ++ [.br false]) [] (ps := [((decide ((↑k5 : Int) < (↑a_0.length : Int))) = false)]) (by kernel_rfl) (by kernel_rfl) (ok1 (decide_eq_false c12))
def tollwayref21_Same_L2_X (a_0 : (List Tapi_Trip)) (b_1 : (List Tapi_Trip)) : (Unit ⊕ Unit) → AEx := fun q => match q with | Sum.inl o => .ret | Sum.inr (o) => (.exit 0)
def tollwayref21_Same_L2_E (a_0 : (List Tapi_Trip)) (b_1 : (List Tapi_Trip)) : (Unit ⊕ Unit) → St := fun q => match q with | Sum.inl o => S 27 [(4, .bool false)] [] | Sum.inr (o) => S 27 [] []
theorem tollwayref21_Same_L2_does (a_0 : (List Tapi_Trip)) (b_1 : (List Tapi_Trip)) {s : Nat} {r : Unit ⊕ Unit} (h : lp (tollwayref21_Same_L2_step a_0 b_1) s = some r) : Does Tryz.prog GT 0 (.loop (bodyAt Tryz.prog 38 [1, 1, 0, 1, 0, 0])) (tollwayref21_Same_L2_H a_0 b_1 s) (tollwayref21_Same_L2_X a_0 b_1 r) (tollwayref21_Same_L2_E a_0 b_1 r) := by
  refine Does.lp (H := tollwayref21_Same_L2_H a_0 b_1) (X := tollwayref21_Same_L2_X a_0 b_1) (E := tollwayref21_Same_L2_E a_0 b_1) (fun s s2 h => ?_) (fun s r h => ?_) h
  · revert h; revert s; intro k5 h
    unfold tollwayref21_Same_L2_step at h
    try dsimp only at h
    rcases ite_some h with ⟨c12, h⟩ | ⟨c12, h⟩
    · obtain ⟨x13, h14, h⟩ := bind_some h
      obtain ⟨x15, h16, h⟩ := bind_some h
      obtain ⟨r17, h18, h⟩ := bind_some h
      rcases ite_some h with ⟨c19, h⟩ | ⟨c19, h⟩
      · obtain ⟨h20, h⟩ := guard_some h
        simp only [Option.some.injEq, Sum.inl.injEq] at h
        subst h
        have hq := tollwayref21_Same_L2_0 a_0 b_1 k5 c12 x13 h14 x15 h16 r17 h18 c19 h20
        first | exact hq | exact Eq.mp (by simp only [tollwayref21_Same_L2_H, List.length_set] <;> rfl) hq
      · simp at h
    · simp at h
  · revert h; revert s; intro k5 h
    unfold tollwayref21_Same_L2_step at h
    try dsimp only at h
    rcases ite_some h with ⟨c12, h⟩ | ⟨c12, h⟩
    · obtain ⟨x13, h14, h⟩ := bind_some h
      obtain ⟨x15, h16, h⟩ := bind_some h
      obtain ⟨r17, h18, h⟩ := bind_some h
      rcases ite_some h with ⟨c19, h⟩ | ⟨c19, h⟩
      · obtain ⟨h20, h⟩ := guard_some h
        simp at h
      · simp only [Option.some.injEq, Sum.inr.injEq] at h
        subst h
        exact ⟨tollwayref21_Same_L2_1 a_0 b_1 k5 c12 x13 h14 x15 h16 r17 h18 c19, by intro q; cases q⟩
    · simp only [Option.some.injEq, Sum.inr.injEq] at h
      subst h
      exact ⟨tollwayref21_Same_L2_2 a_0 b_1 k5 c12, by intro q; cases q⟩
noncomputable def tollwayref21_Same (a_0 : (List Tapi_Trip)) (b_1 : (List Tapi_Trip)) : Option Bool :=
  if (↑a_0.length : Int) = (↑b_1.length : Int) then
    (lp (tollwayref21_Same_L2_step a_0 b_1) (0 : Nat)).bind fun qq => match qq with
    | Sum.inl o2 =>
      some false
    | Sum.inr (o2) =>
      some true
  else
    some false
def tollwayref21_Same_h1  : List CH := (cs 5 [.op none .a])
def tollwayref21_Same_p2 (a_0 : (List Tapi_Trip)) (b_1 : (List Tapi_Trip)) : List Prop := [((!((↑a_0.length : Int) == (↑b_1.length : Int))) = false), ((.lst (fl Tapi_Trip.enc a_0) a_0.length : AV) = .lst (fl Tapi_Trip.enc a_0) a_0.length), ((.lst (fl Tapi_Trip.enc b_1) b_1.length : AV) = .lst (fl Tapi_Trip.enc b_1) b_1.length), ((.int .i64 0 : AV) = .int .i64 (↑(0 : Nat) : Int))]
theorem tollwayref21_Same_p2q (a_0 : (List Tapi_Trip)) (b_1 : (List Tapi_Trip)) (c1 : (↑a_0.length : Int) = (↑b_1.length : Int)) : allOk (tollwayref21_Same_p2 a_0 b_1) := ⟨(not_f (beq_t c1)), rfl, rfl, ok1 rfl⟩
theorem tollwayref21_Same_0 (a_0 : (List Tapi_Trip)) (b_1 : (List Tapi_Trip)) (c1 : (↑a_0.length : Int) = (↑b_1.length : Int)) (o2 : Unit) (hl2 : lp (tollwayref21_Same_L2_step a_0 b_1) (0 : Nat) = some (Sum.inl o2)) : Ret Tryz.prog GT 38 [.lst (fl Tapi_Trip.enc a_0) a_0.length, .lst (fl Tapi_Trip.enc b_1) b_1.length] (.bool false) [] :=
  Ret.of_view 400 ((tollwayref21_Same_h1) ++ ([.br false, .op none .c] ++ [.fcut 0 .ret [(4, .bool false)] [] [] [(0, .lst (fl Tapi_Trip.enc a_0) a_0.length), (1, .lst (fl Tapi_Trip.enc b_1) b_1.length), (5, .int .i64 (↑(0 : Nat) : Int))] []])) [] (ps := ((tollwayref21_Same_p2 a_0 b_1) ++ [(Does Tryz.prog GT 0 (.loop (bodyAt Tryz.prog 38 [1, 1, 0, 1, 0, 0])) (S 27 [(0, .lst (fl Tapi_Trip.enc a_0) a_0.length), (1, .lst (fl Tapi_Trip.enc b_1) b_1.length), (5, .int .i64 (↑(0 : Nat) : Int))] []) .ret (S 27 [(4, .bool false)] []))])) (by kernel_rfl) (by kernel_rfl) (allOk_append.2 ⟨(tollwayref21_Same_p2q a_0 b_1 c1), (ok1 (tollwayref21_Same_L2_does a_0 b_1 (s := (0 : Nat)) (r := Sum.inl o2) hl2))⟩)
theorem tollwayref21_Same_1 (a_0 : (List Tapi_Trip)) (b_1 : (List Tapi_Trip)) (c1 : (↑a_0.length : Int) = (↑b_1.length : Int)) (o2 : Unit) (hl2 : lp (tollwayref21_Same_L2_step a_0 b_1) (0 : Nat) = some (Sum.inr (o2))) : Ret Tryz.prog GT 38 [.lst (fl Tapi_Trip.enc a_0) a_0.length, .lst (fl Tapi_Trip.enc b_1) b_1.length] (.bool true) [] :=
  Ret.of_view 400 ((tollwayref21_Same_h1) ++ ([.br false, .op none .c] ++ [.fcut 0 (.exit 0) [] [] [] [(0, .lst (fl Tapi_Trip.enc a_0) a_0.length), (1, .lst (fl Tapi_Trip.enc b_1) b_1.length), (5, .int .i64 (↑(0 : Nat) : Int))] [], .op none .c])) [] (ps := ((tollwayref21_Same_p2 a_0 b_1) ++ [(Does Tryz.prog GT 0 (.loop (bodyAt Tryz.prog 38 [1, 1, 0, 1, 0, 0])) (S 27 [(0, .lst (fl Tapi_Trip.enc a_0) a_0.length), (1, .lst (fl Tapi_Trip.enc b_1) b_1.length), (5, .int .i64 (↑(0 : Nat) : Int))] []) (.exit 0) (S 27 [] []))])) (by kernel_rfl) (by kernel_rfl) (allOk_append.2 ⟨(tollwayref21_Same_p2q a_0 b_1 c1), (ok1 (tollwayref21_Same_L2_does a_0 b_1 (s := (0 : Nat)) (r := Sum.inr (o2)) hl2))⟩)
theorem tollwayref21_Same_2 (a_0 : (List Tapi_Trip)) (b_1 : (List Tapi_Trip)) (c1 : ¬ ((↑a_0.length : Int) = (↑b_1.length : Int))) : Ret Tryz.prog GT 38 [.lst (fl Tapi_Trip.enc a_0) a_0.length, .lst (fl Tapi_Trip.enc b_1) b_1.length] (.bool false) [] :=
  Ret.of_view 400 ((tollwayref21_Same_h1) ++ [.br true, .op none .c]) [] (ps := [((!((↑a_0.length : Int) == (↑b_1.length : Int))) = true)]) (by kernel_rfl) (by kernel_rfl) (ok1 (not_t (beq_f c1)))
theorem tollwayref21_Same_ret (a_0 : (List Tapi_Trip)) (b_1 : (List Tapi_Trip)) (r : Bool) (h : tollwayref21_Same a_0 b_1 = some r) : Ret Tryz.prog GT 38 [.lst (fl Tapi_Trip.enc a_0) a_0.length, .lst (fl Tapi_Trip.enc b_1) b_1.length] (.bool r) [] := by
  unfold tollwayref21_Same at h
  rcases ite_some h with ⟨c1, h⟩ | ⟨c1, h⟩
  · obtain ⟨qq, hl2, h⟩ := bind_some h
    rcases qq with o2 | o2
    · dsimp only at h
      simp only [Option.some.injEq] at h
      subst h
      exact tollwayref21_Same_0 a_0 b_1 c1 o2 hl2
    · dsimp only at h
      simp only [Option.some.injEq] at h
      subst h
      exact tollwayref21_Same_1 a_0 b_1 c1 o2 hl2
  · simp only [Option.some.injEq] at h
    subst h
    exact tollwayref21_Same_2 a_0 b_1 c1
noncomputable def tollwayref47_SameStays_L2_step (a_0 : (List Tapi_Stay)) (b_1 : (List Tapi_Stay)) : Nat → Option (Nat ⊕ (Unit ⊕ Unit)) := fun k5 =>
  if (↑k5 : Int) < (↑a_0.length : Int) then
    (a_0[k5]?).bind fun x11 =>
    (b_1[k5]?).bind fun x13 =>
    if ((x11.ID == x13.ID) && ((x11.Zone == x13.Zone) && ((x11.Plate == x13.Plate) && (((x11.Time.From == x13.Time.From) && ((x11.Time.To == x13.Time.To) && true)) && true)))) = true then
      if InR .i64 ((↑k5 : Int) + 1) then
        some (Sum.inl (k5 + 1))
      else none
    else
      some (Sum.inr (Sum.inl ()))
  else
    some (Sum.inr (Sum.inr (())))
def tollwayref47_SameStays_L2_H (a_0 : (List Tapi_Stay)) (b_1 : (List Tapi_Stay)) : Nat → St := fun (s : Nat) => S 26 [(0, .lst (fl Tapi_Stay.enc a_0) a_0.length), (1, .lst (fl Tapi_Stay.enc b_1) b_1.length), (5, .int .i64 (↑s : Int))] []
def tollwayref47_SameStays_L2_h1  : List CH := (cs 3 [.op none .a])
def tollwayref47_SameStays_L2_h2 (k5 : Nat) (x11 : Tapi_Stay) (x13 : Tapi_Stay) : List CH := ((.br true) :: (cs 2 ((.op none (.i k5)) :: (.op none (.v [.str x11.ID, .str x11.Zone, .str x11.Plate, .int .i64 x11.Time.From, .int .i64 x11.Time.To])) :: (cs 2 [.op none (.i k5), .op none (.v [.str x13.ID, .str x13.Zone, .str x13.Plate, .int .i64 x13.Time.From, .int .i64 x13.Time.To]), .op none .c]))))
def tollwayref47_SameStays_L2_p3 (a_0 : (List Tapi_Stay)) (b_1 : (List Tapi_Stay)) (k5 : Nat) (x11 : Tapi_Stay) (x13 : Tapi_Stay) : List Prop := [((decide ((↑k5 : Int) < (↑a_0.length : Int))) = true), ((↑k5 : Int) = ((k5 : Nat) : Int) ∧ k5 < a_0.length), ((fl Tapi_Stay.enc a_0) ≠ []), (sub (fl Tapi_Stay.enc a_0) (k5 * 5) 5 = [.str x11.ID, .str x11.Zone, .str x11.Plate, .int .i64 x11.Time.From, .int .i64 x11.Time.To]), ((↑k5 : Int) = ((k5 : Nat) : Int) ∧ k5 < b_1.length), ((fl Tapi_Stay.enc b_1) ≠ []), (sub (fl Tapi_Stay.enc b_1) (k5 * 5) 5 = [.str x13.ID, .str x13.Zone, .str x13.Plate, .int .i64 x13.Time.From, .int .i64 x13.Time.To])]
theorem tollwayref47_SameStays_L2_p3q (a_0 : (List Tapi_Stay)) (b_1 : (List Tapi_Stay)) (k5 : Nat) (c10 : (↑k5 : Int) < (↑a_0.length : Int)) (x11 : Tapi_Stay) (h12 : a_0[k5]? = some x11) (x13 : Tapi_Stay) (h14 : b_1[k5]? = some x13) : allOk (tollwayref47_SameStays_L2_p3 a_0 b_1 k5 x11 x13) := ⟨(decide_eq_true c10), ⟨rfl, get_lt h12⟩, (fl_ne (f := Tapi_Stay.enc) (z := 4) (fun _ => rfl) h12), (fl_sub0 (f := Tapi_Stay.enc) (z := 5) (j := k5) (fun _ => rfl) h12 rfl), ⟨rfl, get_lt h14⟩, (fl_ne (f := Tapi_Stay.enc) (z := 4) (fun _ => rfl) h14), ok1 (fl_sub0 (f := Tapi_Stay.enc) (z := 5) (j := k5) (fun _ => rfl) h14 rfl)⟩
theorem tollwayref47_SameStays_L2_0 (a_0 : (List Tapi_Stay)) (b_1 : (List Tapi_Stay)) (k5 : Nat) (c10 : (↑k5 : Int) < (↑a_0.length : Int)) (x11 : Tapi_Stay) (h12 : a_0[k5]? = some x11) (x13 : Tapi_Stay) (h14 : b_1[k5]? = some x13) (c15 : ((x11.ID == x13.ID) && ((x11.Zone == x13.Zone) && ((x11.Plate == x13.Plate) && (((x11.Time.From == x13.Time.From) && ((x11.Time.To == x13.Time.To) && true)) && true)))) = true) (h16 : InR .i64 ((↑k5 : Int) + 1)) : Does Tryz.prog GT 0 (bodyAt Tryz.prog 39 [1, 1, 0, 1, 0, 0]) (tollwayref47_SameStays_L2_H a_0 b_1 k5) .normal (S 26 [(0, .lst (fl Tapi_Stay.enc a_0) a_0.length), (1, .lst (fl Tapi_Stay.enc b_1) b_1.length), (5, .int .i64 ((↑k5 : Int) + 1))] []) :=
  Does.of_viewM 0 400 ((tollwayref47_SameStays_L2_h1) ++ ((tollwayref47_SameStays_L2_h2 k5 x11 x13) ++ [.br false, .op none .c, .op none .w, .op none .c])) [] (ps := ((tollwayref47_SameStays_L2_p3 a_0 b_1 k5 x11 x13) ++ [((!((x11.ID == x13.ID) && ((x11.Zone == x13.Zone) && ((x11.Plate == x13.Plate) && (((x11.Time.From == x13.Time.From) && ((x11.Time.To == x13.Time.To) && true)) && true))))) = false), (IntKind.min .i64 ≤ ((↑k5 : Int) + 1) ∧ ((↑k5 : Int) + 1) ≤ IntKind.max .i64)])) (by kernel_rfl) (by kernel_rfl) (allOk_append.2 ⟨(tollwayref47_SameStays_L2_p3q a_0 b_1 k5 c10 x11 h12 x13 h14), ⟨(not_f c15), ok1 h16⟩⟩)
theorem tollwayref47_SameStays_L2_1 (a_0 : (List Tapi_Stay)) (b_1 : (List Tapi_Stay)) (k5 : Nat) (c10 : (↑k5 : Int) < (↑a_0.length : Int)) (x11 : Tapi_Stay) (h12 : a_0[k5]? = some x11) (x13 : Tapi_Stay) (h14 : b_1[k5]? = some x13) (c15 : ¬ (((x11.ID == x13.ID) && ((x11.Zone == x13.Zone) && ((x11.Plate == x13.Plate) && (((x11.Time.From == x13.Time.From) && ((x11.Time.To == x13.Time.To) && true)) && true)))) = true)) : Does Tryz.prog GT 0 (bodyAt Tryz.prog 39 [1, 1, 0, 1, 0, 0]) (tollwayref47_SameStays_L2_H a_0 b_1 k5) .ret (S 26 [(4, .bool false)] []) :=
  Does.of_viewM 0 400 ((tollwayref47_SameStays_L2_h1) ++ ((tollwayref47_SameStays_L2_h2 k5 x11 x13) ++ [.br true, .op none .c])) [] (ps := ((tollwayref47_SameStays_L2_p3 a_0 b_1 k5 x11 x13) ++ [((!((x11.ID == x13.ID) && ((x11.Zone == x13.Zone) && ((x11.Plate == x13.Plate) && (((x11.Time.From == x13.Time.From) && ((x11.Time.To == x13.Time.To) && true)) && true))))) = true)])) (by kernel_rfl) (by kernel_rfl) (allOk_append.2 ⟨(tollwayref47_SameStays_L2_p3q a_0 b_1 k5 c10 x11 h12 x13 h14), (ok1 (not_t (eq_false_of_ne_true c15)))⟩)
theorem tollwayref47_SameStays_L2_2 (a_0 : (List Tapi_Stay)) (b_1 : (List Tapi_Stay)) (k5 : Nat) (c10 : ¬ ((↑k5 : Int) < (↑a_0.length : Int))) : Does Tryz.prog GT 0 (bodyAt Tryz.prog 39 [1, 1, 0, 1, 0, 0]) (tollwayref47_SameStays_L2_H a_0 b_1 k5) (.exit 0) (S 26 [] []) :=
  Does.of_viewM 0 400 ((tollwayref47_SameStays_L2_h1) ++ [.br false]) [] (ps := [((decide ((↑k5 : Int) < (↑a_0.length : Int))) = false)]) (by kernel_rfl) (by kernel_rfl) (ok1 (decide_eq_false c10))
def tollwayref47_SameStays_L2_X (a_0 : (List Tapi_Stay)) (b_1 : (List Tapi_Stay)) : (Unit ⊕ Unit) → AEx := fun q => match q with | Sum.inl o => .ret | Sum.inr (o) => (.exit 0)
def tollwayref47_SameStays_L2_E (a_0 : (List Tapi_Stay)) (b_1 : (List Tapi_Stay)) : (Unit ⊕ Unit) → St := fun q => match q with | Sum.inl o => S 26 [(4, .bool false)] [] | Sum.inr (o) => S 26 [] []
theorem tollwayref47_SameStays_L2_does (a_0 : (List Tapi_Stay)) (b_1 : (List Tapi_Stay)) {s : Nat} {r : Unit ⊕ Unit} (h : lp (tollwayref47_SameStays_L2_step a_0 b_1) s = some r) : Does Tryz.prog GT 0 (.loop (bodyAt Tryz.prog 39 [1, 1, 0, 1, 0, 0])) (tollwayref47_SameStays_L2_H a_0 b_1 s) (tollwayref47_SameStays_L2_X a_0 b_1 r) (tollwayref47_SameStays_L2_E a_0 b_1 r) := by
  refine Does.lp (H := tollwayref47_SameStays_L2_H a_0 b_1) (X := tollwayref47_SameStays_L2_X a_0 b_1) (E := tollwayref47_SameStays_L2_E a_0 b_1) (fun s s2 h => ?_) (fun s r h => ?_) h
  · revert h; revert s; intro k5 h
    unfold tollwayref47_SameStays_L2_step at h
    try dsimp only at h
    rcases ite_some h with ⟨c10, h⟩ | ⟨c10, h⟩
    · obtain ⟨x11, h12, h⟩ := bind_some h
      obtain ⟨x13, h14, h⟩ := bind_some h
      rcases ite_some h with ⟨c15, h⟩ | ⟨c15, h⟩
      · obtain ⟨h16, h⟩ := guard_some h
        simp only [Option.some.injEq, Sum.inl.injEq] at h
        subst h
        have hq := tollwayref47_SameStays_L2_0 a_0 b_1 k5 c10 x11 h12 x13 h14 c15 h16
        first | exact hq | exact Eq.mp (by simp only [tollwayref47_SameStays_L2_H, List.length_set] <;> rfl) hq
      · simp at h
    · simp at h
  · revert h; revert s; intro k5 h
    unfold tollwayref47_SameStays_L2_step at h
    try dsimp only at h
    rcases ite_some h with ⟨c10, h⟩ | ⟨c10, h⟩
    · obtain ⟨x11, h12, h⟩ := bind_some h
      obtain ⟨x13, h14, h⟩ := bind_some h
      rcases ite_some h with ⟨c15, h⟩ | ⟨c15, h⟩
      · obtain ⟨h16, h⟩ := guard_some h
        simp at h
      · simp only [Option.some.injEq, Sum.inr.injEq] at h
        subst h
        exact ⟨tollwayref47_SameStays_L2_1 a_0 b_1 k5 c10 x11 h12 x13 h14 c15, by intro q; cases q⟩
    · simp only [Option.some.injEq, Sum.inr.injEq] at h
      subst h
      exact ⟨tollwayref47_SameStays_L2_2 a_0 b_1 k5 c10, by intro q; cases q⟩
noncomputable def tollwayref47_SameStays (a_0 : (List Tapi_Stay)) (b_1 : (List Tapi_Stay)) : Option Bool :=
  if (↑a_0.length : Int) = (↑b_1.length : Int) then
    (lp (tollwayref47_SameStays_L2_step a_0 b_1) (0 : Nat)).bind fun qq => match qq with
    | Sum.inl o2 =>
      some false
    | Sum.inr (o2) =>
      some true
  else
    some false
def tollwayref47_SameStays_h1  : List CH := (cs 5 [.op none .a])
def tollwayref47_SameStays_p2 (a_0 : (List Tapi_Stay)) (b_1 : (List Tapi_Stay)) : List Prop := [((!((↑a_0.length : Int) == (↑b_1.length : Int))) = false), ((.lst (fl Tapi_Stay.enc a_0) a_0.length : AV) = .lst (fl Tapi_Stay.enc a_0) a_0.length), ((.lst (fl Tapi_Stay.enc b_1) b_1.length : AV) = .lst (fl Tapi_Stay.enc b_1) b_1.length), ((.int .i64 0 : AV) = .int .i64 (↑(0 : Nat) : Int))]
theorem tollwayref47_SameStays_p2q (a_0 : (List Tapi_Stay)) (b_1 : (List Tapi_Stay)) (c1 : (↑a_0.length : Int) = (↑b_1.length : Int)) : allOk (tollwayref47_SameStays_p2 a_0 b_1) := ⟨(not_f (beq_t c1)), rfl, rfl, ok1 rfl⟩
theorem tollwayref47_SameStays_0 (a_0 : (List Tapi_Stay)) (b_1 : (List Tapi_Stay)) (c1 : (↑a_0.length : Int) = (↑b_1.length : Int)) (o2 : Unit) (hl2 : lp (tollwayref47_SameStays_L2_step a_0 b_1) (0 : Nat) = some (Sum.inl o2)) : Ret Tryz.prog GT 39 [.lst (fl Tapi_Stay.enc a_0) a_0.length, .lst (fl Tapi_Stay.enc b_1) b_1.length] (.bool false) [] :=
  Ret.of_view 400 ((tollwayref47_SameStays_h1) ++ ([.br false, .op none .c] ++ [.fcut 0 .ret [(4, .bool false)] [] [] [(0, .lst (fl Tapi_Stay.enc a_0) a_0.length), (1, .lst (fl Tapi_Stay.enc b_1) b_1.length), (5, .int .i64 (↑(0 : Nat) : Int))] []])) [] (ps := ((tollwayref47_SameStays_p2 a_0 b_1) ++ [(Does Tryz.prog GT 0 (.loop (bodyAt Tryz.prog 39 [1, 1, 0, 1, 0, 0])) (S 26 [(0, .lst (fl Tapi_Stay.enc a_0) a_0.length), (1, .lst (fl Tapi_Stay.enc b_1) b_1.length), (5, .int .i64 (↑(0 : Nat) : Int))] []) .ret (S 26 [(4, .bool false)] []))])) (by kernel_rfl) (by kernel_rfl) (allOk_append.2 ⟨(tollwayref47_SameStays_p2q a_0 b_1 c1), (ok1 (tollwayref47_SameStays_L2_does a_0 b_1 (s := (0 : Nat)) (r := Sum.inl o2) hl2))⟩)
theorem tollwayref47_SameStays_1 (a_0 : (List Tapi_Stay)) (b_1 : (List Tapi_Stay)) (c1 : (↑a_0.length : Int) = (↑b_1.length : Int)) (o2 : Unit) (hl2 : lp (tollwayref47_SameStays_L2_step a_0 b_1) (0 : Nat) = some (Sum.inr (o2))) : Ret Tryz.prog GT 39 [.lst (fl Tapi_Stay.enc a_0) a_0.length, .lst (fl Tapi_Stay.enc b_1) b_1.length] (.bool true) [] :=
  Ret.of_view 400 ((tollwayref47_SameStays_h1) ++ ([.br false, .op none .c] ++ [.fcut 0 (.exit 0) [] [] [] [(0, .lst (fl Tapi_Stay.enc a_0) a_0.length), (1, .lst (fl Tapi_Stay.enc b_1) b_1.length), (5, .int .i64 (↑(0 : Nat) : Int))] [], .op none .c])) [] (ps := ((tollwayref47_SameStays_p2 a_0 b_1) ++ [(Does Tryz.prog GT 0 (.loop (bodyAt Tryz.prog 39 [1, 1, 0, 1, 0, 0])) (S 26 [(0, .lst (fl Tapi_Stay.enc a_0) a_0.length), (1, .lst (fl Tapi_Stay.enc b_1) b_1.length), (5, .int .i64 (↑(0 : Nat) : Int))] []) (.exit 0) (S 26 [] []))])) (by kernel_rfl) (by kernel_rfl) (allOk_append.2 ⟨(tollwayref47_SameStays_p2q a_0 b_1 c1), (ok1 (tollwayref47_SameStays_L2_does a_0 b_1 (s := (0 : Nat)) (r := Sum.inr (o2)) hl2))⟩)
theorem tollwayref47_SameStays_2 (a_0 : (List Tapi_Stay)) (b_1 : (List Tapi_Stay)) (c1 : ¬ ((↑a_0.length : Int) = (↑b_1.length : Int))) : Ret Tryz.prog GT 39 [.lst (fl Tapi_Stay.enc a_0) a_0.length, .lst (fl Tapi_Stay.enc b_1) b_1.length] (.bool false) [] :=
  Ret.of_view 400 ((tollwayref47_SameStays_h1) ++ [.br true, .op none .c]) [] (ps := [((!((↑a_0.length : Int) == (↑b_1.length : Int))) = true)]) (by kernel_rfl) (by kernel_rfl) (ok1 (not_t (beq_f c1)))
theorem tollwayref47_SameStays_ret (a_0 : (List Tapi_Stay)) (b_1 : (List Tapi_Stay)) (r : Bool) (h : tollwayref47_SameStays a_0 b_1 = some r) : Ret Tryz.prog GT 39 [.lst (fl Tapi_Stay.enc a_0) a_0.length, .lst (fl Tapi_Stay.enc b_1) b_1.length] (.bool r) [] := by
  unfold tollwayref47_SameStays at h
  rcases ite_some h with ⟨c1, h⟩ | ⟨c1, h⟩
  · obtain ⟨qq, hl2, h⟩ := bind_some h
    rcases qq with o2 | o2
    · dsimp only at h
      simp only [Option.some.injEq] at h
      subst h
      exact tollwayref47_SameStays_0 a_0 b_1 c1 o2 hl2
    · dsimp only at h
      simp only [Option.some.injEq] at h
      subst h
      exact tollwayref47_SameStays_1 a_0 b_1 c1 o2 hl2
  · simp only [Option.some.injEq] at h
    subst h
    exact tollwayref47_SameStays_2 a_0 b_1 c1
noncomputable def tollwayref31_One_L8_step (a_0 : Tapi_Charge) (b_1 : Tapi_Charge) : Nat → Option (Nat ⊕ (Unit ⊕ Unit)) := fun k5 =>
  if (↑k5 : Int) < (↑a_0.Lines.length : Int) then
    (a_0.Lines[k5]?).bind fun x17 =>
    (b_1.Lines[k5]?).bind fun x19 =>
    if ((x17.Text == x19.Text) && ((x17.Cents == x19.Cents) && true)) = true then
      if InR .i64 ((↑k5 : Int) + 1) then
        some (Sum.inl (k5 + 1))
      else none
    else
      some (Sum.inr (Sum.inl ()))
  else
    some (Sum.inr (Sum.inr (())))
def tollwayref31_One_L8_H (a_0 : Tapi_Charge) (b_1 : Tapi_Charge) : Nat → St := fun (s : Nat) => S 73 [(2, .ptr 0 0), (3, .ptr 1 0), (5, .int .i64 (↑s : Int))] [(bT (Tapi_Charge.enc a_0) 86), (bT (Tapi_Charge.enc b_1) 86)]
def tollwayref31_One_L8_h1  : List CH := (cs 4 [.op none .a])
def tollwayref31_One_L8_h2 (k5 : Nat) (x17 : Tapi_Line) (x19 : Tapi_Line) : List CH := ((.br true) :: (cs 3 ((.op none (.i k5)) :: (.op none (.v [.str x17.Text, .int .i64 x17.Cents])) :: (cs 3 [.op none (.i k5), .op none (.v [.str x19.Text, .int .i64 x19.Cents]), .op none .c]))))
def tollwayref31_One_L8_p3 (a_0 : Tapi_Charge) (b_1 : Tapi_Charge) (k5 : Nat) (x17 : Tapi_Line) (x19 : Tapi_Line) : List Prop := [((decide ((↑k5 : Int) < (↑a_0.Lines.length : Int))) = true), ((↑k5 : Int) = ((k5 : Nat) : Int) ∧ k5 < a_0.Lines.length), ((fl Tapi_Line.enc a_0.Lines) ≠ []), (sub (fl Tapi_Line.enc a_0.Lines) (k5 * 2) 2 = [.str x17.Text, .int .i64 x17.Cents]), ((↑k5 : Int) = ((k5 : Nat) : Int) ∧ k5 < b_1.Lines.length), ((fl Tapi_Line.enc b_1.Lines) ≠ []), (sub (fl Tapi_Line.enc b_1.Lines) (k5 * 2) 2 = [.str x19.Text, .int .i64 x19.Cents])]
theorem tollwayref31_One_L8_p3q (a_0 : Tapi_Charge) (b_1 : Tapi_Charge) (k5 : Nat) (c16 : (↑k5 : Int) < (↑a_0.Lines.length : Int)) (x17 : Tapi_Line) (h18 : a_0.Lines[k5]? = some x17) (x19 : Tapi_Line) (h20 : b_1.Lines[k5]? = some x19) : allOk (tollwayref31_One_L8_p3 a_0 b_1 k5 x17 x19) := ⟨(decide_eq_true c16), ⟨rfl, get_lt h18⟩, (fl_ne (f := Tapi_Line.enc) (z := 1) (fun _ => rfl) h18), (fl_sub0 (f := Tapi_Line.enc) (z := 2) (j := k5) (fun _ => rfl) h18 rfl), ⟨rfl, get_lt h20⟩, (fl_ne (f := Tapi_Line.enc) (z := 1) (fun _ => rfl) h20), ok1 (fl_sub0 (f := Tapi_Line.enc) (z := 2) (j := k5) (fun _ => rfl) h20 rfl)⟩
theorem tollwayref31_One_L8_0 (a_0 : Tapi_Charge) (b_1 : Tapi_Charge) (k5 : Nat) (c16 : (↑k5 : Int) < (↑a_0.Lines.length : Int)) (x17 : Tapi_Line) (h18 : a_0.Lines[k5]? = some x17) (x19 : Tapi_Line) (h20 : b_1.Lines[k5]? = some x19) (c21 : ((x17.Text == x19.Text) && ((x17.Cents == x19.Cents) && true)) = true) (h22 : InR .i64 ((↑k5 : Int) + 1)) : Does Tryz.prog GT 2 (bodyAt Tryz.prog 79 [1, 1, 0, 1, 0, 0]) (tollwayref31_One_L8_H a_0 b_1 k5) .normal (S 73 [(2, .ptr 0 0), (3, .ptr 1 0), (5, .int .i64 ((↑k5 : Int) + 1))] [(bT (Tapi_Charge.enc a_0) 86), (bT (Tapi_Charge.enc b_1) 86)]) :=
  Does.of_viewM 2 400 ((tollwayref31_One_L8_h1) ++ ((tollwayref31_One_L8_h2 k5 x17 x19) ++ [.br false, .op none .c, .op none .w, .op none .c])) [0, 1] (ps := ((tollwayref31_One_L8_p3 a_0 b_1 k5 x17 x19) ++ [((!((x17.Text == x19.Text) && ((x17.Cents == x19.Cents) && true))) = false), (IntKind.min .i64 ≤ ((↑k5 : Int) + 1) ∧ ((↑k5 : Int) + 1) ≤ IntKind.max .i64)])) (by kernel_rfl) (by kernel_rfl) (allOk_append.2 ⟨(tollwayref31_One_L8_p3q a_0 b_1 k5 c16 x17 h18 x19 h20), ⟨(not_f c21), ok1 h22⟩⟩)
theorem tollwayref31_One_L8_1 (a_0 : Tapi_Charge) (b_1 : Tapi_Charge) (k5 : Nat) (c16 : (↑k5 : Int) < (↑a_0.Lines.length : Int)) (x17 : Tapi_Line) (h18 : a_0.Lines[k5]? = some x17) (x19 : Tapi_Line) (h20 : b_1.Lines[k5]? = some x19) (c21 : ¬ (((x17.Text == x19.Text) && ((x17.Cents == x19.Cents) && true)) = true)) : Does Tryz.prog GT 2 (bodyAt Tryz.prog 79 [1, 1, 0, 1, 0, 0]) (tollwayref31_One_L8_H a_0 b_1 k5) .ret (S 73 [(4, .bool false)] [(bT (Tapi_Charge.enc a_0) 86), (bT (Tapi_Charge.enc b_1) 86)]) :=
  Does.of_viewM 2 400 ((tollwayref31_One_L8_h1) ++ ((tollwayref31_One_L8_h2 k5 x17 x19) ++ [.br true, .op none .c])) [0, 1] (ps := ((tollwayref31_One_L8_p3 a_0 b_1 k5 x17 x19) ++ [((!((x17.Text == x19.Text) && ((x17.Cents == x19.Cents) && true))) = true)])) (by kernel_rfl) (by kernel_rfl) (allOk_append.2 ⟨(tollwayref31_One_L8_p3q a_0 b_1 k5 c16 x17 h18 x19 h20), (ok1 (not_t (eq_false_of_ne_true c21)))⟩)
theorem tollwayref31_One_L8_2 (a_0 : Tapi_Charge) (b_1 : Tapi_Charge) (k5 : Nat) (c16 : ¬ ((↑k5 : Int) < (↑a_0.Lines.length : Int))) : Does Tryz.prog GT 2 (bodyAt Tryz.prog 79 [1, 1, 0, 1, 0, 0]) (tollwayref31_One_L8_H a_0 b_1 k5) (.exit 0) (S 73 [] [(bT (Tapi_Charge.enc a_0) 86), (bT (Tapi_Charge.enc b_1) 86)]) :=
  Does.of_viewM 2 400 ((tollwayref31_One_L8_h1) ++ [.br false]) [0, 1] (ps := [((decide ((↑k5 : Int) < (↑a_0.Lines.length : Int))) = false)]) (by kernel_rfl) (by kernel_rfl) (ok1 (decide_eq_false c16))
def tollwayref31_One_L8_X (a_0 : Tapi_Charge) (b_1 : Tapi_Charge) : (Unit ⊕ Unit) → AEx := fun q => match q with | Sum.inl o => .ret | Sum.inr (o) => (.exit 0)
def tollwayref31_One_L8_E (a_0 : Tapi_Charge) (b_1 : Tapi_Charge) : (Unit ⊕ Unit) → St := fun q => match q with | Sum.inl o => S 73 [(4, .bool false)] [(bT (Tapi_Charge.enc a_0) 86), (bT (Tapi_Charge.enc b_1) 86)] | Sum.inr (o) => S 73 [] [(bT (Tapi_Charge.enc a_0) 86), (bT (Tapi_Charge.enc b_1) 86)]
theorem tollwayref31_One_L8_does (a_0 : Tapi_Charge) (b_1 : Tapi_Charge) {s : Nat} {r : Unit ⊕ Unit} (h : lp (tollwayref31_One_L8_step a_0 b_1) s = some r) : Does Tryz.prog GT 2 (.loop (bodyAt Tryz.prog 79 [1, 1, 0, 1, 0, 0])) (tollwayref31_One_L8_H a_0 b_1 s) (tollwayref31_One_L8_X a_0 b_1 r) (tollwayref31_One_L8_E a_0 b_1 r) := by
  refine Does.lp (H := tollwayref31_One_L8_H a_0 b_1) (X := tollwayref31_One_L8_X a_0 b_1) (E := tollwayref31_One_L8_E a_0 b_1) (fun s s2 h => ?_) (fun s r h => ?_) h
  · revert h; revert s; intro k5 h
    unfold tollwayref31_One_L8_step at h
    try dsimp only at h
    rcases ite_some h with ⟨c16, h⟩ | ⟨c16, h⟩
    · obtain ⟨x17, h18, h⟩ := bind_some h
      obtain ⟨x19, h20, h⟩ := bind_some h
      rcases ite_some h with ⟨c21, h⟩ | ⟨c21, h⟩
      · obtain ⟨h22, h⟩ := guard_some h
        simp only [Option.some.injEq, Sum.inl.injEq] at h
        subst h
        have hq := tollwayref31_One_L8_0 a_0 b_1 k5 c16 x17 h18 x19 h20 c21 h22
        first | exact hq | exact Eq.mp (by simp only [tollwayref31_One_L8_H, List.length_set] <;> rfl) hq
      · simp at h
    · simp at h
  · revert h; revert s; intro k5 h
    unfold tollwayref31_One_L8_step at h
    try dsimp only at h
    rcases ite_some h with ⟨c16, h⟩ | ⟨c16, h⟩
    · obtain ⟨x17, h18, h⟩ := bind_some h
      obtain ⟨x19, h20, h⟩ := bind_some h
      rcases ite_some h with ⟨c21, h⟩ | ⟨c21, h⟩
      · obtain ⟨h22, h⟩ := guard_some h
        simp at h
      · simp only [Option.some.injEq, Sum.inr.injEq] at h
        subst h
        exact ⟨tollwayref31_One_L8_1 a_0 b_1 k5 c16 x17 h18 x19 h20 c21, by intro q; cases q⟩
    · simp only [Option.some.injEq, Sum.inr.injEq] at h
      subst h
      exact ⟨tollwayref31_One_L8_2 a_0 b_1 k5 c16, by intro q; cases q⟩
noncomputable def tollwayref31_One (a_0 : Tapi_Charge) (b_1 : Tapi_Charge) : Option Bool :=
  if a_0.Key = b_1.Key then
    if a_0.Vehicle = b_1.Vehicle then
      if a_0.System = b_1.System then
        if a_0.Class = b_1.Class then
          if a_0.Time = b_1.Time then
            if a_0.Cents = b_1.Cents then
              if (↑a_0.Lines.length : Int) = (↑b_1.Lines.length : Int) then
                (lp (tollwayref31_One_L8_step a_0 b_1) (0 : Nat)).bind fun qq => match qq with
                | Sum.inl o8 =>
                  some false
                | Sum.inr (o8) =>
                  some true
              else
                some false
            else
              some false
          else
            some false
        else
          some false
      else
        some false
    else
      some false
  else
    some false
def tollwayref31_One_h1  : List CH := (cs 7 [.op none .a, .op none .c])
def tollwayref31_One_h2  : List CH := ((.op (some false) .c) :: (cs 3 ((.op none .a) :: (cs 2 []))))
def tollwayref31_One_h3  : List CH := ((.op (some false) .c) :: (cs 3 ((.op none .a) :: (cs 2 []))))
def tollwayref31_One_h4  : List CH := ((.op (some false) .c) :: (cs 3 ((.op none .a) :: (cs 2 []))))
def tollwayref31_One_h5  : List CH := ((.op (some false) .c) :: (cs 3 ((.op none .a) :: (cs 2 []))))
def tollwayref31_One_h6  : List CH := ((.op (some false) .c) :: (cs 3 ((.op none .a) :: (cs 2 []))))
def tollwayref31_One_h7  : List CH := ((.op (some false) .c) :: (cs 5 [.op none .a, .op none .c]))
def tollwayref31_One_p8 (a_0 : Tapi_Charge) (b_1 : Tapi_Charge) : List Prop := [((!((↑a_0.Lines.length : Int) == (↑b_1.Lines.length : Int))) = false), ((.ptr 0 0 : AV) = .ptr 0 0), ((.ptr 1 0 : AV) = .ptr 1 0), ((.int .i64 0 : AV) = .int .i64 (↑(0 : Nat) : Int)), (((bT (Tapi_Charge.enc a_0) 86) : Blk) = renB [0, 1] (bT (Tapi_Charge.enc a_0) 86)), (((bT (Tapi_Charge.enc b_1) 86) : Blk) = renB [0, 1] (bT (Tapi_Charge.enc b_1) 86))]
theorem tollwayref31_One_p8q (a_0 : Tapi_Charge) (b_1 : Tapi_Charge) (c7 : (↑a_0.Lines.length : Int) = (↑b_1.Lines.length : Int)) : allOk (tollwayref31_One_p8 a_0 b_1) := ⟨(not_f (beq_t c7)), rfl, rfl, rfl, rfl, ok1 rfl⟩
theorem tollwayref31_One_0 (a_0 : Tapi_Charge) (b_1 : Tapi_Charge) (c1 : a_0.Key = b_1.Key) (c2 : a_0.Vehicle = b_1.Vehicle) (c3 : a_0.System = b_1.System) (c4 : a_0.Class = b_1.Class) (c5 : a_0.Time = b_1.Time) (c6 : a_0.Cents = b_1.Cents) (c7 : (↑a_0.Lines.length : Int) = (↑b_1.Lines.length : Int)) (o8 : Unit) (hl8 : lp (tollwayref31_One_L8_step a_0 b_1) (0 : Nat) = some (Sum.inl o8)) : Ret Tryz.prog GT 79 [.agg (Tapi_Charge.enc a_0), .agg (Tapi_Charge.enc b_1)] (.bool false) [] :=
  Ret.of_view 400 ((tollwayref31_One_h1) ++ ((tollwayref31_One_h2) ++ ((tollwayref31_One_h3) ++ ((tollwayref31_One_h4) ++ ((tollwayref31_One_h5) ++ ((tollwayref31_One_h6) ++ ((tollwayref31_One_h7) ++ ([.br false, .op none .c] ++ [.fcut 2 .ret [(4, .bool false)] [(bT (Tapi_Charge.enc a_0) 86), (bT (Tapi_Charge.enc b_1) 86)] [0, 1] [(2, .ptr 0 0), (3, .ptr 1 0), (5, .int .i64 (↑(0 : Nat) : Int))] [(bT (Tapi_Charge.enc a_0) 86), (bT (Tapi_Charge.enc b_1) 86)]])))))))) [] (ps := ([((!(a_0.Key == b_1.Key)) = false)] ++ ([((!(a_0.Vehicle == b_1.Vehicle)) = false)] ++ ([((!(a_0.System == b_1.System)) = false)] ++ ([((!(a_0.Class == b_1.Class)) = false)] ++ ([((!(a_0.Time == b_1.Time)) = false)] ++ ([((!(a_0.Cents == b_1.Cents)) = false)] ++ ((tollwayref31_One_p8 a_0 b_1) ++ [(Does Tryz.prog GT 2 (.loop (bodyAt Tryz.prog 79 [1, 1, 0, 1, 0, 0])) (S 73 [(2, .ptr 0 0), (3, .ptr 1 0), (5, .int .i64 (↑(0 : Nat) : Int))] [(bT (Tapi_Charge.enc a_0) 86), (bT (Tapi_Charge.enc b_1) 86)]) .ret (S 73 [(4, .bool false)] [(bT (Tapi_Charge.enc a_0) 86), (bT (Tapi_Charge.enc b_1) 86)]))])))))))) (by kernel_rfl) (by kernel_rfl) (allOk_append.2 ⟨(ok1 (not_f (beq_t c1))), (allOk_append.2 ⟨(ok1 (not_f (beq_t c2))), (allOk_append.2 ⟨(ok1 (not_f (beq_t c3))), (allOk_append.2 ⟨(ok1 (not_f (beq_t c4))), (allOk_append.2 ⟨(ok1 (not_f (beq_t c5))), (allOk_append.2 ⟨(ok1 (not_f (beq_t c6))), (allOk_append.2 ⟨(tollwayref31_One_p8q a_0 b_1 c7), (ok1 (tollwayref31_One_L8_does a_0 b_1 (s := (0 : Nat)) (r := Sum.inl o8) hl8))⟩)⟩)⟩)⟩)⟩)⟩)⟩)
theorem tollwayref31_One_1 (a_0 : Tapi_Charge) (b_1 : Tapi_Charge) (c1 : a_0.Key = b_1.Key) (c2 : a_0.Vehicle = b_1.Vehicle) (c3 : a_0.System = b_1.System) (c4 : a_0.Class = b_1.Class) (c5 : a_0.Time = b_1.Time) (c6 : a_0.Cents = b_1.Cents) (c7 : (↑a_0.Lines.length : Int) = (↑b_1.Lines.length : Int)) (o8 : Unit) (hl8 : lp (tollwayref31_One_L8_step a_0 b_1) (0 : Nat) = some (Sum.inr (o8))) : Ret Tryz.prog GT 79 [.agg (Tapi_Charge.enc a_0), .agg (Tapi_Charge.enc b_1)] (.bool true) [] :=
  Ret.of_view 400 ((tollwayref31_One_h1) ++ ((tollwayref31_One_h2) ++ ((tollwayref31_One_h3) ++ ((tollwayref31_One_h4) ++ ((tollwayref31_One_h5) ++ ((tollwayref31_One_h6) ++ ((tollwayref31_One_h7) ++ ([.br false, .op none .c] ++ [.fcut 2 (.exit 0) [] [(bT (Tapi_Charge.enc a_0) 86), (bT (Tapi_Charge.enc b_1) 86)] [0, 1] [(2, .ptr 0 0), (3, .ptr 1 0), (5, .int .i64 (↑(0 : Nat) : Int))] [(bT (Tapi_Charge.enc a_0) 86), (bT (Tapi_Charge.enc b_1) 86)], .op none .c])))))))) [] (ps := ([((!(a_0.Key == b_1.Key)) = false)] ++ ([((!(a_0.Vehicle == b_1.Vehicle)) = false)] ++ ([((!(a_0.System == b_1.System)) = false)] ++ ([((!(a_0.Class == b_1.Class)) = false)] ++ ([((!(a_0.Time == b_1.Time)) = false)] ++ ([((!(a_0.Cents == b_1.Cents)) = false)] ++ ((tollwayref31_One_p8 a_0 b_1) ++ [(Does Tryz.prog GT 2 (.loop (bodyAt Tryz.prog 79 [1, 1, 0, 1, 0, 0])) (S 73 [(2, .ptr 0 0), (3, .ptr 1 0), (5, .int .i64 (↑(0 : Nat) : Int))] [(bT (Tapi_Charge.enc a_0) 86), (bT (Tapi_Charge.enc b_1) 86)]) (.exit 0) (S 73 [] [(bT (Tapi_Charge.enc a_0) 86), (bT (Tapi_Charge.enc b_1) 86)]))])))))))) (by kernel_rfl) (by kernel_rfl) (allOk_append.2 ⟨(ok1 (not_f (beq_t c1))), (allOk_append.2 ⟨(ok1 (not_f (beq_t c2))), (allOk_append.2 ⟨(ok1 (not_f (beq_t c3))), (allOk_append.2 ⟨(ok1 (not_f (beq_t c4))), (allOk_append.2 ⟨(ok1 (not_f (beq_t c5))), (allOk_append.2 ⟨(ok1 (not_f (beq_t c6))), (allOk_append.2 ⟨(tollwayref31_One_p8q a_0 b_1 c7), (ok1 (tollwayref31_One_L8_does a_0 b_1 (s := (0 : Nat)) (r := Sum.inr (o8)) hl8))⟩)⟩)⟩)⟩)⟩)⟩)⟩)
theorem tollwayref31_One_2 (a_0 : Tapi_Charge) (b_1 : Tapi_Charge) (c1 : a_0.Key = b_1.Key) (c2 : a_0.Vehicle = b_1.Vehicle) (c3 : a_0.System = b_1.System) (c4 : a_0.Class = b_1.Class) (c5 : a_0.Time = b_1.Time) (c6 : a_0.Cents = b_1.Cents) (c7 : ¬ ((↑a_0.Lines.length : Int) = (↑b_1.Lines.length : Int))) : Ret Tryz.prog GT 79 [.agg (Tapi_Charge.enc a_0), .agg (Tapi_Charge.enc b_1)] (.bool false) [] :=
  Ret.of_view 400 ((tollwayref31_One_h1) ++ ((tollwayref31_One_h2) ++ ((tollwayref31_One_h3) ++ ((tollwayref31_One_h4) ++ ((tollwayref31_One_h5) ++ ((tollwayref31_One_h6) ++ ((tollwayref31_One_h7) ++ [.br true, .op none .c]))))))) [] (ps := ([((!(a_0.Key == b_1.Key)) = false)] ++ ([((!(a_0.Vehicle == b_1.Vehicle)) = false)] ++ ([((!(a_0.System == b_1.System)) = false)] ++ ([((!(a_0.Class == b_1.Class)) = false)] ++ ([((!(a_0.Time == b_1.Time)) = false)] ++ ([((!(a_0.Cents == b_1.Cents)) = false)] ++ [((!((↑a_0.Lines.length : Int) == (↑b_1.Lines.length : Int))) = true)]))))))) (by kernel_rfl) (by kernel_rfl) (allOk_append.2 ⟨(ok1 (not_f (beq_t c1))), (allOk_append.2 ⟨(ok1 (not_f (beq_t c2))), (allOk_append.2 ⟨(ok1 (not_f (beq_t c3))), (allOk_append.2 ⟨(ok1 (not_f (beq_t c4))), (allOk_append.2 ⟨(ok1 (not_f (beq_t c5))), (allOk_append.2 ⟨(ok1 (not_f (beq_t c6))), (ok1 (not_t (beq_f c7)))⟩)⟩)⟩)⟩)⟩)⟩)
theorem tollwayref31_One_3 (a_0 : Tapi_Charge) (b_1 : Tapi_Charge) (c1 : a_0.Key = b_1.Key) (c2 : a_0.Vehicle = b_1.Vehicle) (c3 : a_0.System = b_1.System) (c4 : a_0.Class = b_1.Class) (c5 : a_0.Time = b_1.Time) (c6 : ¬ (a_0.Cents = b_1.Cents)) : Ret Tryz.prog GT 79 [.agg (Tapi_Charge.enc a_0), .agg (Tapi_Charge.enc b_1)] (.bool false) [] :=
  Ret.of_view 400 ((tollwayref31_One_h1) ++ ((tollwayref31_One_h2) ++ ((tollwayref31_One_h3) ++ ((tollwayref31_One_h4) ++ ((tollwayref31_One_h5) ++ ((tollwayref31_One_h6) ++ ((.op (some true) .c) :: (cs 7 [.br true, .op none .c])))))))) [] (ps := ([((!(a_0.Key == b_1.Key)) = false)] ++ ([((!(a_0.Vehicle == b_1.Vehicle)) = false)] ++ ([((!(a_0.System == b_1.System)) = false)] ++ ([((!(a_0.Class == b_1.Class)) = false)] ++ ([((!(a_0.Time == b_1.Time)) = false)] ++ [((!(a_0.Cents == b_1.Cents)) = true), (true = true)])))))) (by kernel_rfl) (by kernel_rfl) (allOk_append.2 ⟨(ok1 (not_f (beq_t c1))), (allOk_append.2 ⟨(ok1 (not_f (beq_t c2))), (allOk_append.2 ⟨(ok1 (not_f (beq_t c3))), (allOk_append.2 ⟨(ok1 (not_f (beq_t c4))), (allOk_append.2 ⟨(ok1 (not_f (beq_t c5))), ⟨(not_t (beq_f c6)), ok1 rfl⟩⟩)⟩)⟩)⟩)⟩)
theorem tollwayref31_One_4 (a_0 : Tapi_Charge) (b_1 : Tapi_Charge) (c1 : a_0.Key = b_1.Key) (c2 : a_0.Vehicle = b_1.Vehicle) (c3 : a_0.System = b_1.System) (c4 : a_0.Class = b_1.Class) (c5 : ¬ (a_0.Time = b_1.Time)) : Ret Tryz.prog GT 79 [.agg (Tapi_Charge.enc a_0), .agg (Tapi_Charge.enc b_1)] (.bool false) [] :=
  Ret.of_view 400 ((tollwayref31_One_h1) ++ ((tollwayref31_One_h2) ++ ((tollwayref31_One_h3) ++ ((tollwayref31_One_h4) ++ ((tollwayref31_One_h5) ++ ((.op (some true) .c) :: (cs 14 [.br true, .op none .c]))))))) [] (ps := ([((!(a_0.Key == b_1.Key)) = false)] ++ ([((!(a_0.Vehicle == b_1.Vehicle)) = false)] ++ ([((!(a_0.System == b_1.System)) = false)] ++ ([((!(a_0.Class == b_1.Class)) = false)] ++ [((!(a_0.Time == b_1.Time)) = true), (true = true)]))))) (by kernel_rfl) (by kernel_rfl) (allOk_append.2 ⟨(ok1 (not_f (beq_t c1))), (allOk_append.2 ⟨(ok1 (not_f (beq_t c2))), (allOk_append.2 ⟨(ok1 (not_f (beq_t c3))), (allOk_append.2 ⟨(ok1 (not_f (beq_t c4))), ⟨(not_t (beq_f c5)), ok1 rfl⟩⟩)⟩)⟩)⟩)
theorem tollwayref31_One_5 (a_0 : Tapi_Charge) (b_1 : Tapi_Charge) (c1 : a_0.Key = b_1.Key) (c2 : a_0.Vehicle = b_1.Vehicle) (c3 : a_0.System = b_1.System) (c4 : ¬ (a_0.Class = b_1.Class)) : Ret Tryz.prog GT 79 [.agg (Tapi_Charge.enc a_0), .agg (Tapi_Charge.enc b_1)] (.bool false) [] :=
  Ret.of_view 400 ((tollwayref31_One_h1) ++ ((tollwayref31_One_h2) ++ ((tollwayref31_One_h3) ++ ((tollwayref31_One_h4) ++ ((.op (some true) .c) :: (cs 21 [.br true, .op none .c])))))) [] (ps := ([((!(a_0.Key == b_1.Key)) = false)] ++ ([((!(a_0.Vehicle == b_1.Vehicle)) = false)] ++ ([((!(a_0.System == b_1.System)) = false)] ++ [((!(a_0.Class == b_1.Class)) = true), (true = true)])))) (by kernel_rfl) (by kernel_rfl) (allOk_append.2 ⟨(ok1 (not_f (beq_t c1))), (allOk_append.2 ⟨(ok1 (not_f (beq_t c2))), (allOk_append.2 ⟨(ok1 (not_f (beq_t c3))), ⟨(not_t (beq_f c4)), ok1 rfl⟩⟩)⟩)⟩)
theorem tollwayref31_One_6 (a_0 : Tapi_Charge) (b_1 : Tapi_Charge) (c1 : a_0.Key = b_1.Key) (c2 : a_0.Vehicle = b_1.Vehicle) (c3 : ¬ (a_0.System = b_1.System)) : Ret Tryz.prog GT 79 [.agg (Tapi_Charge.enc a_0), .agg (Tapi_Charge.enc b_1)] (.bool false) [] :=
  Ret.of_view 400 ((tollwayref31_One_h1) ++ ((tollwayref31_One_h2) ++ ((tollwayref31_One_h3) ++ ((.op (some true) .c) :: (cs 28 [.br true, .op none .c]))))) [] (ps := ([((!(a_0.Key == b_1.Key)) = false)] ++ ([((!(a_0.Vehicle == b_1.Vehicle)) = false)] ++ [((!(a_0.System == b_1.System)) = true), (true = true)]))) (by kernel_rfl) (by kernel_rfl) (allOk_append.2 ⟨(ok1 (not_f (beq_t c1))), (allOk_append.2 ⟨(ok1 (not_f (beq_t c2))), ⟨(not_t (beq_f c3)), ok1 rfl⟩⟩)⟩)
theorem tollwayref31_One_7 (a_0 : Tapi_Charge) (b_1 : Tapi_Charge) (c1 : a_0.Key = b_1.Key) (c2 : ¬ (a_0.Vehicle = b_1.Vehicle)) : Ret Tryz.prog GT 79 [.agg (Tapi_Charge.enc a_0), .agg (Tapi_Charge.enc b_1)] (.bool false) [] :=
  Ret.of_view 400 ((tollwayref31_One_h1) ++ ((tollwayref31_One_h2) ++ ((.op (some true) .c) :: (cs 35 [.br true, .op none .c])))) [] (ps := ([((!(a_0.Key == b_1.Key)) = false)] ++ [((!(a_0.Vehicle == b_1.Vehicle)) = true), (true = true)])) (by kernel_rfl) (by kernel_rfl) (allOk_append.2 ⟨(ok1 (not_f (beq_t c1))), ⟨(not_t (beq_f c2)), ok1 rfl⟩⟩)
theorem tollwayref31_One_8 (a_0 : Tapi_Charge) (b_1 : Tapi_Charge) (c1 : ¬ (a_0.Key = b_1.Key)) : Ret Tryz.prog GT 79 [.agg (Tapi_Charge.enc a_0), .agg (Tapi_Charge.enc b_1)] (.bool false) [] :=
  Ret.of_view 400 ((tollwayref31_One_h1) ++ ((.op (some true) .c) :: (cs 42 [.br true, .op none .c]))) [] (ps := [((!(a_0.Key == b_1.Key)) = true), (true = true)]) (by kernel_rfl) (by kernel_rfl) ⟨(not_t (beq_f c1)), ok1 rfl⟩
theorem tollwayref31_One_ret (a_0 : Tapi_Charge) (b_1 : Tapi_Charge) (r : Bool) (h : tollwayref31_One a_0 b_1 = some r) : Ret Tryz.prog GT 79 [.agg (Tapi_Charge.enc a_0), .agg (Tapi_Charge.enc b_1)] (.bool r) [] := by
  unfold tollwayref31_One at h
  rcases ite_some h with ⟨c1, h⟩ | ⟨c1, h⟩
  · rcases ite_some h with ⟨c2, h⟩ | ⟨c2, h⟩
    · rcases ite_some h with ⟨c3, h⟩ | ⟨c3, h⟩
      · rcases ite_some h with ⟨c4, h⟩ | ⟨c4, h⟩
        · rcases ite_some h with ⟨c5, h⟩ | ⟨c5, h⟩
          · rcases ite_some h with ⟨c6, h⟩ | ⟨c6, h⟩
            · rcases ite_some h with ⟨c7, h⟩ | ⟨c7, h⟩
              · obtain ⟨qq, hl8, h⟩ := bind_some h
                rcases qq with o8 | o8
                · dsimp only at h
                  simp only [Option.some.injEq] at h
                  subst h
                  exact tollwayref31_One_0 a_0 b_1 c1 c2 c3 c4 c5 c6 c7 o8 hl8
                · dsimp only at h
                  simp only [Option.some.injEq] at h
                  subst h
                  exact tollwayref31_One_1 a_0 b_1 c1 c2 c3 c4 c5 c6 c7 o8 hl8
              · simp only [Option.some.injEq] at h
                subst h
                exact tollwayref31_One_2 a_0 b_1 c1 c2 c3 c4 c5 c6 c7
            · simp only [Option.some.injEq] at h
              subst h
              exact tollwayref31_One_3 a_0 b_1 c1 c2 c3 c4 c5 c6
          · simp only [Option.some.injEq] at h
            subst h
            exact tollwayref31_One_4 a_0 b_1 c1 c2 c3 c4 c5
        · simp only [Option.some.injEq] at h
          subst h
          exact tollwayref31_One_5 a_0 b_1 c1 c2 c3 c4
      · simp only [Option.some.injEq] at h
        subst h
        exact tollwayref31_One_6 a_0 b_1 c1 c2 c3
    · simp only [Option.some.injEq] at h
      subst h
      exact tollwayref31_One_7 a_0 b_1 c1 c2
  · simp only [Option.some.injEq] at h
    subst h
    exact tollwayref31_One_8 a_0 b_1 c1
noncomputable def tollwayref31_Same_L2_step (a_0 : (List Tapi_Charge)) (b_1 : (List Tapi_Charge)) : Nat → Option (Nat ⊕ (Unit ⊕ Unit)) := fun k5 =>
  if (↑k5 : Int) < (↑a_0.length : Int) then
    (a_0[k5]?).bind fun x13 =>
    (b_1[k5]?).bind fun x15 =>
    (tollwayref31_One x13 x15).bind fun r17 =>
    if r17 = true then
      if InR .i64 ((↑k5 : Int) + 1) then
        some (Sum.inl (k5 + 1))
      else none
    else
      some (Sum.inr (Sum.inl ()))
  else
    some (Sum.inr (Sum.inr (())))
def tollwayref31_Same_L2_H (a_0 : (List Tapi_Charge)) (b_1 : (List Tapi_Charge)) : Nat → St := fun (s : Nat) => S 27 [(0, .lst (fl Tapi_Charge.enc a_0) a_0.length), (1, .lst (fl Tapi_Charge.enc b_1) b_1.length), (5, .int .i64 (↑s : Int))] []
def tollwayref31_Same_L2_h1  : List CH := (cs 3 [.op none .a])
def tollwayref31_Same_L2_h2 (k5 : Nat) (x13 : Tapi_Charge) (x15 : Tapi_Charge) (r17 : Bool) : List CH := ((.br true) :: (cs 2 ((.op none (.i k5)) :: (.op none (.v [.str x13.Key, .str x13.Vehicle, .str x13.System, .int .i64 x13.Class, .int .i64 x13.Time, .lst (fl Tapi_Line.enc x13.Lines) x13.Lines.length, .int .i64 x13.Cents])) :: (cs 2 [.op none (.i k5), .op none (.v [.str x15.Key, .str x15.Vehicle, .str x15.System, .int .i64 x15.Class, .int .i64 x15.Time, .lst (fl Tapi_Line.enc x15.Lines) x15.Lines.length, .int .i64 x15.Cents]), .ret none [.agg (Tapi_Charge.enc x13), .agg (Tapi_Charge.enc x15)] (.bool r17) [], .op none .c]))))
def tollwayref31_Same_L2_p3 (a_0 : (List Tapi_Charge)) (b_1 : (List Tapi_Charge)) (k5 : Nat) (x13 : Tapi_Charge) (x15 : Tapi_Charge) (r17 : Bool) : List Prop := [((decide ((↑k5 : Int) < (↑a_0.length : Int))) = true), ((↑k5 : Int) = ((k5 : Nat) : Int) ∧ k5 < a_0.length), ((fl Tapi_Charge.enc a_0) ≠ []), (sub (fl Tapi_Charge.enc a_0) (k5 * 7) 7 = [.str x13.Key, .str x13.Vehicle, .str x13.System, .int .i64 x13.Class, .int .i64 x13.Time, .lst (fl Tapi_Line.enc x13.Lines) x13.Lines.length, .int .i64 x13.Cents]), ((↑k5 : Int) = ((k5 : Nat) : Int) ∧ k5 < b_1.length), ((fl Tapi_Charge.enc b_1) ≠ []), (sub (fl Tapi_Charge.enc b_1) (k5 * 7) 7 = [.str x15.Key, .str x15.Vehicle, .str x15.System, .int .i64 x15.Class, .int .i64 x15.Time, .lst (fl Tapi_Line.enc x15.Lines) x15.Lines.length, .int .i64 x15.Cents]), ((.agg (Tapi_Charge.enc x13) : AV) = .agg (Tapi_Charge.enc x13)), ((.agg (Tapi_Charge.enc x15) : AV) = .agg (Tapi_Charge.enc x15)), (Ret Tryz.prog GT 79 [.agg (Tapi_Charge.enc x13), .agg (Tapi_Charge.enc x15)] (.bool r17) [])]
theorem tollwayref31_Same_L2_p3q (a_0 : (List Tapi_Charge)) (b_1 : (List Tapi_Charge)) (k5 : Nat) (c12 : (↑k5 : Int) < (↑a_0.length : Int)) (x13 : Tapi_Charge) (h14 : a_0[k5]? = some x13) (x15 : Tapi_Charge) (h16 : b_1[k5]? = some x15) (r17 : Bool) (h18 : tollwayref31_One x13 x15 = some r17) : allOk (tollwayref31_Same_L2_p3 a_0 b_1 k5 x13 x15 r17) := ⟨(decide_eq_true c12), ⟨rfl, get_lt h14⟩, (fl_ne (f := Tapi_Charge.enc) (z := 6) (fun _ => rfl) h14), (fl_sub0 (f := Tapi_Charge.enc) (z := 7) (j := k5) (fun _ => rfl) h14 rfl), ⟨rfl, get_lt h16⟩, (fl_ne (f := Tapi_Charge.enc) (z := 6) (fun _ => rfl) h16), (fl_sub0 (f := Tapi_Charge.enc) (z := 7) (j := k5) (fun _ => rfl) h16 rfl), rfl, rfl, ok1 (tollwayref31_One_ret x13 x15 r17 h18)⟩
theorem tollwayref31_Same_L2_0 (a_0 : (List Tapi_Charge)) (b_1 : (List Tapi_Charge)) (k5 : Nat) (c12 : (↑k5 : Int) < (↑a_0.length : Int)) (x13 : Tapi_Charge) (h14 : a_0[k5]? = some x13) (x15 : Tapi_Charge) (h16 : b_1[k5]? = some x15) (r17 : Bool) (h18 : tollwayref31_One x13 x15 = some r17) (c19 : r17 = true) (h20 : InR .i64 ((↑k5 : Int) + 1)) : Does Tryz.prog GT 0 (bodyAt Tryz.prog 40 [1, 1, 0, 1, 0, 0]) (tollwayref31_Same_L2_H a_0 b_1 k5) .normal (S 27 [(0, .lst (fl Tapi_Charge.enc a_0) a_0.length), (1, .lst (fl Tapi_Charge.enc b_1) b_1.length), (5, .int .i64 ((↑k5 : Int) + 1))] []) :=
  Does.of_viewM 0 400 ((tollwayref31_Same_L2_h1) ++ ((tollwayref31_Same_L2_h2 k5 x13 x15 r17) ++ [.br false, .op none .c, .op none .w, .op none .c])) [] (ps := ((tollwayref31_Same_L2_p3 a_0 b_1 k5 x13 x15 r17) ++ [((!r17) = false), (IntKind.min .i64 ≤ ((↑k5 : Int) + 1) ∧ ((↑k5 : Int) + 1) ≤ IntKind.max .i64)])) (by kernel_rfl) (by kernel_rfl) (allOk_append.2 ⟨(tollwayref31_Same_L2_p3q a_0 b_1 k5 c12 x13 h14 x15 h16 r17 h18), ⟨(not_f c19), ok1 h20⟩⟩)
theorem tollwayref31_Same_L2_1 (a_0 : (List Tapi_Charge)) (b_1 : (List Tapi_Charge)) (k5 : Nat) (c12 : (↑k5 : Int) < (↑a_0.length : Int)) (x13 : Tapi_Charge) (h14 : a_0[k5]? = some x13) (x15 : Tapi_Charge) (h16 : b_1[k5]? = some x15) (r17 : Bool) (h18 : tollwayref31_One x13 x15 = some r17) (c19 : ¬ (r17 = true)) : Does Tryz.prog GT 0 (bodyAt Tryz.prog 40 [1, 1, 0, 1, 0, 0]) (tollwayref31_Same_L2_H a_0 b_1 k5) .ret (S 27 [(4, .bool false)] []) :=
  Does.of_viewM 0 400 ((tollwayref31_Same_L2_h1) ++ ((tollwayref31_Same_L2_h2 k5 x13 x15 r17) ++ [.br true, .op none .c])) [] (ps := ((tollwayref31_Same_L2_p3 a_0 b_1 k5 x13 x15 r17) ++ [((!r17) = true)])) (by kernel_rfl) (by kernel_rfl) (allOk_append.2 ⟨(tollwayref31_Same_L2_p3q a_0 b_1 k5 c12 x13 h14 x15 h16 r17 h18), (ok1 (not_t (eq_false_of_ne_true c19)))⟩)
theorem tollwayref31_Same_L2_2 (a_0 : (List Tapi_Charge)) (b_1 : (List Tapi_Charge)) (k5 : Nat) (c12 : ¬ ((↑k5 : Int) < (↑a_0.length : Int))) : Does Tryz.prog GT 0 (bodyAt Tryz.prog 40 [1, 1, 0, 1, 0, 0]) (tollwayref31_Same_L2_H a_0 b_1 k5) (.exit 0) (S 27 [] []) :=
  Does.of_viewM 0 400 ((tollwayref31_Same_L2_h1) ++ [.br false]) [] (ps := [((decide ((↑k5 : Int) < (↑a_0.length : Int))) = false)]) (by kernel_rfl) (by kernel_rfl) (ok1 (decide_eq_false c12))
def tollwayref31_Same_L2_X (a_0 : (List Tapi_Charge)) (b_1 : (List Tapi_Charge)) : (Unit ⊕ Unit) → AEx := fun q => match q with | Sum.inl o => .ret | Sum.inr (o) => (.exit 0)
def tollwayref31_Same_L2_E (a_0 : (List Tapi_Charge)) (b_1 : (List Tapi_Charge)) : (Unit ⊕ Unit) → St := fun q => match q with | Sum.inl o => S 27 [(4, .bool false)] [] | Sum.inr (o) => S 27 [] []
theorem tollwayref31_Same_L2_does (a_0 : (List Tapi_Charge)) (b_1 : (List Tapi_Charge)) {s : Nat} {r : Unit ⊕ Unit} (h : lp (tollwayref31_Same_L2_step a_0 b_1) s = some r) : Does Tryz.prog GT 0 (.loop (bodyAt Tryz.prog 40 [1, 1, 0, 1, 0, 0])) (tollwayref31_Same_L2_H a_0 b_1 s) (tollwayref31_Same_L2_X a_0 b_1 r) (tollwayref31_Same_L2_E a_0 b_1 r) := by
  refine Does.lp (H := tollwayref31_Same_L2_H a_0 b_1) (X := tollwayref31_Same_L2_X a_0 b_1) (E := tollwayref31_Same_L2_E a_0 b_1) (fun s s2 h => ?_) (fun s r h => ?_) h
  · revert h; revert s; intro k5 h
    unfold tollwayref31_Same_L2_step at h
    try dsimp only at h
    rcases ite_some h with ⟨c12, h⟩ | ⟨c12, h⟩
    · obtain ⟨x13, h14, h⟩ := bind_some h
      obtain ⟨x15, h16, h⟩ := bind_some h
      obtain ⟨r17, h18, h⟩ := bind_some h
      rcases ite_some h with ⟨c19, h⟩ | ⟨c19, h⟩
      · obtain ⟨h20, h⟩ := guard_some h
        simp only [Option.some.injEq, Sum.inl.injEq] at h
        subst h
        have hq := tollwayref31_Same_L2_0 a_0 b_1 k5 c12 x13 h14 x15 h16 r17 h18 c19 h20
        first | exact hq | exact Eq.mp (by simp only [tollwayref31_Same_L2_H, List.length_set] <;> rfl) hq
      · simp at h
    · simp at h
  · revert h; revert s; intro k5 h
    unfold tollwayref31_Same_L2_step at h
    try dsimp only at h
    rcases ite_some h with ⟨c12, h⟩ | ⟨c12, h⟩
    · obtain ⟨x13, h14, h⟩ := bind_some h
      obtain ⟨x15, h16, h⟩ := bind_some h
      obtain ⟨r17, h18, h⟩ := bind_some h
      rcases ite_some h with ⟨c19, h⟩ | ⟨c19, h⟩
      · obtain ⟨h20, h⟩ := guard_some h
        simp at h
      · simp only [Option.some.injEq, Sum.inr.injEq] at h
        subst h
        exact ⟨tollwayref31_Same_L2_1 a_0 b_1 k5 c12 x13 h14 x15 h16 r17 h18 c19, by intro q; cases q⟩
    · simp only [Option.some.injEq, Sum.inr.injEq] at h
      subst h
      exact ⟨tollwayref31_Same_L2_2 a_0 b_1 k5 c12, by intro q; cases q⟩
noncomputable def tollwayref31_Same (a_0 : (List Tapi_Charge)) (b_1 : (List Tapi_Charge)) : Option Bool :=
  if (↑a_0.length : Int) = (↑b_1.length : Int) then
    (lp (tollwayref31_Same_L2_step a_0 b_1) (0 : Nat)).bind fun qq => match qq with
    | Sum.inl o2 =>
      some false
    | Sum.inr (o2) =>
      some true
  else
    some false
def tollwayref31_Same_h1  : List CH := (cs 5 [.op none .a])
def tollwayref31_Same_p2 (a_0 : (List Tapi_Charge)) (b_1 : (List Tapi_Charge)) : List Prop := [((!((↑a_0.length : Int) == (↑b_1.length : Int))) = false), ((.lst (fl Tapi_Charge.enc a_0) a_0.length : AV) = .lst (fl Tapi_Charge.enc a_0) a_0.length), ((.lst (fl Tapi_Charge.enc b_1) b_1.length : AV) = .lst (fl Tapi_Charge.enc b_1) b_1.length), ((.int .i64 0 : AV) = .int .i64 (↑(0 : Nat) : Int))]
theorem tollwayref31_Same_p2q (a_0 : (List Tapi_Charge)) (b_1 : (List Tapi_Charge)) (c1 : (↑a_0.length : Int) = (↑b_1.length : Int)) : allOk (tollwayref31_Same_p2 a_0 b_1) := ⟨(not_f (beq_t c1)), rfl, rfl, ok1 rfl⟩
theorem tollwayref31_Same_0 (a_0 : (List Tapi_Charge)) (b_1 : (List Tapi_Charge)) (c1 : (↑a_0.length : Int) = (↑b_1.length : Int)) (o2 : Unit) (hl2 : lp (tollwayref31_Same_L2_step a_0 b_1) (0 : Nat) = some (Sum.inl o2)) : Ret Tryz.prog GT 40 [.lst (fl Tapi_Charge.enc a_0) a_0.length, .lst (fl Tapi_Charge.enc b_1) b_1.length] (.bool false) [] :=
  Ret.of_view 400 ((tollwayref31_Same_h1) ++ ([.br false, .op none .c] ++ [.fcut 0 .ret [(4, .bool false)] [] [] [(0, .lst (fl Tapi_Charge.enc a_0) a_0.length), (1, .lst (fl Tapi_Charge.enc b_1) b_1.length), (5, .int .i64 (↑(0 : Nat) : Int))] []])) [] (ps := ((tollwayref31_Same_p2 a_0 b_1) ++ [(Does Tryz.prog GT 0 (.loop (bodyAt Tryz.prog 40 [1, 1, 0, 1, 0, 0])) (S 27 [(0, .lst (fl Tapi_Charge.enc a_0) a_0.length), (1, .lst (fl Tapi_Charge.enc b_1) b_1.length), (5, .int .i64 (↑(0 : Nat) : Int))] []) .ret (S 27 [(4, .bool false)] []))])) (by kernel_rfl) (by kernel_rfl) (allOk_append.2 ⟨(tollwayref31_Same_p2q a_0 b_1 c1), (ok1 (tollwayref31_Same_L2_does a_0 b_1 (s := (0 : Nat)) (r := Sum.inl o2) hl2))⟩)
theorem tollwayref31_Same_1 (a_0 : (List Tapi_Charge)) (b_1 : (List Tapi_Charge)) (c1 : (↑a_0.length : Int) = (↑b_1.length : Int)) (o2 : Unit) (hl2 : lp (tollwayref31_Same_L2_step a_0 b_1) (0 : Nat) = some (Sum.inr (o2))) : Ret Tryz.prog GT 40 [.lst (fl Tapi_Charge.enc a_0) a_0.length, .lst (fl Tapi_Charge.enc b_1) b_1.length] (.bool true) [] :=
  Ret.of_view 400 ((tollwayref31_Same_h1) ++ ([.br false, .op none .c] ++ [.fcut 0 (.exit 0) [] [] [] [(0, .lst (fl Tapi_Charge.enc a_0) a_0.length), (1, .lst (fl Tapi_Charge.enc b_1) b_1.length), (5, .int .i64 (↑(0 : Nat) : Int))] [], .op none .c])) [] (ps := ((tollwayref31_Same_p2 a_0 b_1) ++ [(Does Tryz.prog GT 0 (.loop (bodyAt Tryz.prog 40 [1, 1, 0, 1, 0, 0])) (S 27 [(0, .lst (fl Tapi_Charge.enc a_0) a_0.length), (1, .lst (fl Tapi_Charge.enc b_1) b_1.length), (5, .int .i64 (↑(0 : Nat) : Int))] []) (.exit 0) (S 27 [] []))])) (by kernel_rfl) (by kernel_rfl) (allOk_append.2 ⟨(tollwayref31_Same_p2q a_0 b_1 c1), (ok1 (tollwayref31_Same_L2_does a_0 b_1 (s := (0 : Nat)) (r := Sum.inr (o2)) hl2))⟩)
theorem tollwayref31_Same_2 (a_0 : (List Tapi_Charge)) (b_1 : (List Tapi_Charge)) (c1 : ¬ ((↑a_0.length : Int) = (↑b_1.length : Int))) : Ret Tryz.prog GT 40 [.lst (fl Tapi_Charge.enc a_0) a_0.length, .lst (fl Tapi_Charge.enc b_1) b_1.length] (.bool false) [] :=
  Ret.of_view 400 ((tollwayref31_Same_h1) ++ [.br true, .op none .c]) [] (ps := [((!((↑a_0.length : Int) == (↑b_1.length : Int))) = true)]) (by kernel_rfl) (by kernel_rfl) (ok1 (not_t (beq_f c1)))
theorem tollwayref31_Same_ret (a_0 : (List Tapi_Charge)) (b_1 : (List Tapi_Charge)) (r : Bool) (h : tollwayref31_Same a_0 b_1 = some r) : Ret Tryz.prog GT 40 [.lst (fl Tapi_Charge.enc a_0) a_0.length, .lst (fl Tapi_Charge.enc b_1) b_1.length] (.bool r) [] := by
  unfold tollwayref31_Same at h
  rcases ite_some h with ⟨c1, h⟩ | ⟨c1, h⟩
  · obtain ⟨qq, hl2, h⟩ := bind_some h
    rcases qq with o2 | o2
    · dsimp only at h
      simp only [Option.some.injEq] at h
      subst h
      exact tollwayref31_Same_0 a_0 b_1 c1 o2 hl2
    · dsimp only at h
      simp only [Option.some.injEq] at h
      subst h
      exact tollwayref31_Same_1 a_0 b_1 c1 o2 hl2
  · simp only [Option.some.injEq] at h
    subst h
    exact tollwayref31_Same_2 a_0 b_1 c1
noncomputable def tollwayref21_SameExclusions_L2_step (a_0 : (List Tapi_Exclusion)) (b_1 : (List Tapi_Exclusion)) : Nat → Option (Nat ⊕ (Unit ⊕ Unit)) := fun k5 =>
  if (↑k5 : Int) < (↑a_0.length : Int) then
    (a_0[k5]?).bind fun x11 =>
    (b_1[k5]?).bind fun x13 =>
    if ((x11.ID == x13.ID) && ((x11.Why == x13.Why) && true)) = true then
      if InR .i64 ((↑k5 : Int) + 1) then
        some (Sum.inl (k5 + 1))
      else none
    else
      some (Sum.inr (Sum.inl ()))
  else
    some (Sum.inr (Sum.inr (())))
def tollwayref21_SameExclusions_L2_H (a_0 : (List Tapi_Exclusion)) (b_1 : (List Tapi_Exclusion)) : Nat → St := fun (s : Nat) => S 26 [(0, .lst (fl Tapi_Exclusion.enc a_0) a_0.length), (1, .lst (fl Tapi_Exclusion.enc b_1) b_1.length), (5, .int .i64 (↑s : Int))] []
def tollwayref21_SameExclusions_L2_h1  : List CH := (cs 3 [.op none .a])
def tollwayref21_SameExclusions_L2_h2 (k5 : Nat) (x11 : Tapi_Exclusion) (x13 : Tapi_Exclusion) : List CH := ((.br true) :: (cs 2 ((.op none (.i k5)) :: (.op none (.v [.str x11.ID, .int .i64 x11.Why])) :: (cs 2 [.op none (.i k5), .op none (.v [.str x13.ID, .int .i64 x13.Why]), .op none .c]))))
def tollwayref21_SameExclusions_L2_p3 (a_0 : (List Tapi_Exclusion)) (b_1 : (List Tapi_Exclusion)) (k5 : Nat) (x11 : Tapi_Exclusion) (x13 : Tapi_Exclusion) : List Prop := [((decide ((↑k5 : Int) < (↑a_0.length : Int))) = true), ((↑k5 : Int) = ((k5 : Nat) : Int) ∧ k5 < a_0.length), ((fl Tapi_Exclusion.enc a_0) ≠ []), (sub (fl Tapi_Exclusion.enc a_0) (k5 * 2) 2 = [.str x11.ID, .int .i64 x11.Why]), ((↑k5 : Int) = ((k5 : Nat) : Int) ∧ k5 < b_1.length), ((fl Tapi_Exclusion.enc b_1) ≠ []), (sub (fl Tapi_Exclusion.enc b_1) (k5 * 2) 2 = [.str x13.ID, .int .i64 x13.Why])]
theorem tollwayref21_SameExclusions_L2_p3q (a_0 : (List Tapi_Exclusion)) (b_1 : (List Tapi_Exclusion)) (k5 : Nat) (c10 : (↑k5 : Int) < (↑a_0.length : Int)) (x11 : Tapi_Exclusion) (h12 : a_0[k5]? = some x11) (x13 : Tapi_Exclusion) (h14 : b_1[k5]? = some x13) : allOk (tollwayref21_SameExclusions_L2_p3 a_0 b_1 k5 x11 x13) := ⟨(decide_eq_true c10), ⟨rfl, get_lt h12⟩, (fl_ne (f := Tapi_Exclusion.enc) (z := 1) (fun _ => rfl) h12), (fl_sub0 (f := Tapi_Exclusion.enc) (z := 2) (j := k5) (fun _ => rfl) h12 rfl), ⟨rfl, get_lt h14⟩, (fl_ne (f := Tapi_Exclusion.enc) (z := 1) (fun _ => rfl) h14), ok1 (fl_sub0 (f := Tapi_Exclusion.enc) (z := 2) (j := k5) (fun _ => rfl) h14 rfl)⟩
theorem tollwayref21_SameExclusions_L2_0 (a_0 : (List Tapi_Exclusion)) (b_1 : (List Tapi_Exclusion)) (k5 : Nat) (c10 : (↑k5 : Int) < (↑a_0.length : Int)) (x11 : Tapi_Exclusion) (h12 : a_0[k5]? = some x11) (x13 : Tapi_Exclusion) (h14 : b_1[k5]? = some x13) (c15 : ((x11.ID == x13.ID) && ((x11.Why == x13.Why) && true)) = true) (h16 : InR .i64 ((↑k5 : Int) + 1)) : Does Tryz.prog GT 0 (bodyAt Tryz.prog 41 [1, 1, 0, 1, 0, 0]) (tollwayref21_SameExclusions_L2_H a_0 b_1 k5) .normal (S 26 [(0, .lst (fl Tapi_Exclusion.enc a_0) a_0.length), (1, .lst (fl Tapi_Exclusion.enc b_1) b_1.length), (5, .int .i64 ((↑k5 : Int) + 1))] []) :=
  Does.of_viewM 0 400 ((tollwayref21_SameExclusions_L2_h1) ++ ((tollwayref21_SameExclusions_L2_h2 k5 x11 x13) ++ [.br false, .op none .c, .op none .w, .op none .c])) [] (ps := ((tollwayref21_SameExclusions_L2_p3 a_0 b_1 k5 x11 x13) ++ [((!((x11.ID == x13.ID) && ((x11.Why == x13.Why) && true))) = false), (IntKind.min .i64 ≤ ((↑k5 : Int) + 1) ∧ ((↑k5 : Int) + 1) ≤ IntKind.max .i64)])) (by kernel_rfl) (by kernel_rfl) (allOk_append.2 ⟨(tollwayref21_SameExclusions_L2_p3q a_0 b_1 k5 c10 x11 h12 x13 h14), ⟨(not_f c15), ok1 h16⟩⟩)
theorem tollwayref21_SameExclusions_L2_1 (a_0 : (List Tapi_Exclusion)) (b_1 : (List Tapi_Exclusion)) (k5 : Nat) (c10 : (↑k5 : Int) < (↑a_0.length : Int)) (x11 : Tapi_Exclusion) (h12 : a_0[k5]? = some x11) (x13 : Tapi_Exclusion) (h14 : b_1[k5]? = some x13) (c15 : ¬ (((x11.ID == x13.ID) && ((x11.Why == x13.Why) && true)) = true)) : Does Tryz.prog GT 0 (bodyAt Tryz.prog 41 [1, 1, 0, 1, 0, 0]) (tollwayref21_SameExclusions_L2_H a_0 b_1 k5) .ret (S 26 [(4, .bool false)] []) :=
  Does.of_viewM 0 400 ((tollwayref21_SameExclusions_L2_h1) ++ ((tollwayref21_SameExclusions_L2_h2 k5 x11 x13) ++ [.br true, .op none .c])) [] (ps := ((tollwayref21_SameExclusions_L2_p3 a_0 b_1 k5 x11 x13) ++ [((!((x11.ID == x13.ID) && ((x11.Why == x13.Why) && true))) = true)])) (by kernel_rfl) (by kernel_rfl) (allOk_append.2 ⟨(tollwayref21_SameExclusions_L2_p3q a_0 b_1 k5 c10 x11 h12 x13 h14), (ok1 (not_t (eq_false_of_ne_true c15)))⟩)
theorem tollwayref21_SameExclusions_L2_2 (a_0 : (List Tapi_Exclusion)) (b_1 : (List Tapi_Exclusion)) (k5 : Nat) (c10 : ¬ ((↑k5 : Int) < (↑a_0.length : Int))) : Does Tryz.prog GT 0 (bodyAt Tryz.prog 41 [1, 1, 0, 1, 0, 0]) (tollwayref21_SameExclusions_L2_H a_0 b_1 k5) (.exit 0) (S 26 [] []) :=
  Does.of_viewM 0 400 ((tollwayref21_SameExclusions_L2_h1) ++ [.br false]) [] (ps := [((decide ((↑k5 : Int) < (↑a_0.length : Int))) = false)]) (by kernel_rfl) (by kernel_rfl) (ok1 (decide_eq_false c10))
def tollwayref21_SameExclusions_L2_X (a_0 : (List Tapi_Exclusion)) (b_1 : (List Tapi_Exclusion)) : (Unit ⊕ Unit) → AEx := fun q => match q with | Sum.inl o => .ret | Sum.inr (o) => (.exit 0)
def tollwayref21_SameExclusions_L2_E (a_0 : (List Tapi_Exclusion)) (b_1 : (List Tapi_Exclusion)) : (Unit ⊕ Unit) → St := fun q => match q with | Sum.inl o => S 26 [(4, .bool false)] [] | Sum.inr (o) => S 26 [] []
theorem tollwayref21_SameExclusions_L2_does (a_0 : (List Tapi_Exclusion)) (b_1 : (List Tapi_Exclusion)) {s : Nat} {r : Unit ⊕ Unit} (h : lp (tollwayref21_SameExclusions_L2_step a_0 b_1) s = some r) : Does Tryz.prog GT 0 (.loop (bodyAt Tryz.prog 41 [1, 1, 0, 1, 0, 0])) (tollwayref21_SameExclusions_L2_H a_0 b_1 s) (tollwayref21_SameExclusions_L2_X a_0 b_1 r) (tollwayref21_SameExclusions_L2_E a_0 b_1 r) := by
  refine Does.lp (H := tollwayref21_SameExclusions_L2_H a_0 b_1) (X := tollwayref21_SameExclusions_L2_X a_0 b_1) (E := tollwayref21_SameExclusions_L2_E a_0 b_1) (fun s s2 h => ?_) (fun s r h => ?_) h
  · revert h; revert s; intro k5 h
    unfold tollwayref21_SameExclusions_L2_step at h
    try dsimp only at h
    rcases ite_some h with ⟨c10, h⟩ | ⟨c10, h⟩
    · obtain ⟨x11, h12, h⟩ := bind_some h
      obtain ⟨x13, h14, h⟩ := bind_some h
      rcases ite_some h with ⟨c15, h⟩ | ⟨c15, h⟩
      · obtain ⟨h16, h⟩ := guard_some h
        simp only [Option.some.injEq, Sum.inl.injEq] at h
        subst h
        have hq := tollwayref21_SameExclusions_L2_0 a_0 b_1 k5 c10 x11 h12 x13 h14 c15 h16
        first | exact hq | exact Eq.mp (by simp only [tollwayref21_SameExclusions_L2_H, List.length_set] <;> rfl) hq
      · simp at h
    · simp at h
  · revert h; revert s; intro k5 h
    unfold tollwayref21_SameExclusions_L2_step at h
    try dsimp only at h
    rcases ite_some h with ⟨c10, h⟩ | ⟨c10, h⟩
    · obtain ⟨x11, h12, h⟩ := bind_some h
      obtain ⟨x13, h14, h⟩ := bind_some h
      rcases ite_some h with ⟨c15, h⟩ | ⟨c15, h⟩
      · obtain ⟨h16, h⟩ := guard_some h
        simp at h
      · simp only [Option.some.injEq, Sum.inr.injEq] at h
        subst h
        exact ⟨tollwayref21_SameExclusions_L2_1 a_0 b_1 k5 c10 x11 h12 x13 h14 c15, by intro q; cases q⟩
    · simp only [Option.some.injEq, Sum.inr.injEq] at h
      subst h
      exact ⟨tollwayref21_SameExclusions_L2_2 a_0 b_1 k5 c10, by intro q; cases q⟩
noncomputable def tollwayref21_SameExclusions (a_0 : (List Tapi_Exclusion)) (b_1 : (List Tapi_Exclusion)) : Option Bool :=
  if (↑a_0.length : Int) = (↑b_1.length : Int) then
    (lp (tollwayref21_SameExclusions_L2_step a_0 b_1) (0 : Nat)).bind fun qq => match qq with
    | Sum.inl o2 =>
      some false
    | Sum.inr (o2) =>
      some true
  else
    some false
def tollwayref21_SameExclusions_h1  : List CH := (cs 5 [.op none .a])
def tollwayref21_SameExclusions_p2 (a_0 : (List Tapi_Exclusion)) (b_1 : (List Tapi_Exclusion)) : List Prop := [((!((↑a_0.length : Int) == (↑b_1.length : Int))) = false), ((.lst (fl Tapi_Exclusion.enc a_0) a_0.length : AV) = .lst (fl Tapi_Exclusion.enc a_0) a_0.length), ((.lst (fl Tapi_Exclusion.enc b_1) b_1.length : AV) = .lst (fl Tapi_Exclusion.enc b_1) b_1.length), ((.int .i64 0 : AV) = .int .i64 (↑(0 : Nat) : Int))]
theorem tollwayref21_SameExclusions_p2q (a_0 : (List Tapi_Exclusion)) (b_1 : (List Tapi_Exclusion)) (c1 : (↑a_0.length : Int) = (↑b_1.length : Int)) : allOk (tollwayref21_SameExclusions_p2 a_0 b_1) := ⟨(not_f (beq_t c1)), rfl, rfl, ok1 rfl⟩
theorem tollwayref21_SameExclusions_0 (a_0 : (List Tapi_Exclusion)) (b_1 : (List Tapi_Exclusion)) (c1 : (↑a_0.length : Int) = (↑b_1.length : Int)) (o2 : Unit) (hl2 : lp (tollwayref21_SameExclusions_L2_step a_0 b_1) (0 : Nat) = some (Sum.inl o2)) : Ret Tryz.prog GT 41 [.lst (fl Tapi_Exclusion.enc a_0) a_0.length, .lst (fl Tapi_Exclusion.enc b_1) b_1.length] (.bool false) [] :=
  Ret.of_view 400 ((tollwayref21_SameExclusions_h1) ++ ([.br false, .op none .c] ++ [.fcut 0 .ret [(4, .bool false)] [] [] [(0, .lst (fl Tapi_Exclusion.enc a_0) a_0.length), (1, .lst (fl Tapi_Exclusion.enc b_1) b_1.length), (5, .int .i64 (↑(0 : Nat) : Int))] []])) [] (ps := ((tollwayref21_SameExclusions_p2 a_0 b_1) ++ [(Does Tryz.prog GT 0 (.loop (bodyAt Tryz.prog 41 [1, 1, 0, 1, 0, 0])) (S 26 [(0, .lst (fl Tapi_Exclusion.enc a_0) a_0.length), (1, .lst (fl Tapi_Exclusion.enc b_1) b_1.length), (5, .int .i64 (↑(0 : Nat) : Int))] []) .ret (S 26 [(4, .bool false)] []))])) (by kernel_rfl) (by kernel_rfl) (allOk_append.2 ⟨(tollwayref21_SameExclusions_p2q a_0 b_1 c1), (ok1 (tollwayref21_SameExclusions_L2_does a_0 b_1 (s := (0 : Nat)) (r := Sum.inl o2) hl2))⟩)
theorem tollwayref21_SameExclusions_1 (a_0 : (List Tapi_Exclusion)) (b_1 : (List Tapi_Exclusion)) (c1 : (↑a_0.length : Int) = (↑b_1.length : Int)) (o2 : Unit) (hl2 : lp (tollwayref21_SameExclusions_L2_step a_0 b_1) (0 : Nat) = some (Sum.inr (o2))) : Ret Tryz.prog GT 41 [.lst (fl Tapi_Exclusion.enc a_0) a_0.length, .lst (fl Tapi_Exclusion.enc b_1) b_1.length] (.bool true) [] :=
  Ret.of_view 400 ((tollwayref21_SameExclusions_h1) ++ ([.br false, .op none .c] ++ [.fcut 0 (.exit 0) [] [] [] [(0, .lst (fl Tapi_Exclusion.enc a_0) a_0.length), (1, .lst (fl Tapi_Exclusion.enc b_1) b_1.length), (5, .int .i64 (↑(0 : Nat) : Int))] [], .op none .c])) [] (ps := ((tollwayref21_SameExclusions_p2 a_0 b_1) ++ [(Does Tryz.prog GT 0 (.loop (bodyAt Tryz.prog 41 [1, 1, 0, 1, 0, 0])) (S 26 [(0, .lst (fl Tapi_Exclusion.enc a_0) a_0.length), (1, .lst (fl Tapi_Exclusion.enc b_1) b_1.length), (5, .int .i64 (↑(0 : Nat) : Int))] []) (.exit 0) (S 26 [] []))])) (by kernel_rfl) (by kernel_rfl) (allOk_append.2 ⟨(tollwayref21_SameExclusions_p2q a_0 b_1 c1), (ok1 (tollwayref21_SameExclusions_L2_does a_0 b_1 (s := (0 : Nat)) (r := Sum.inr (o2)) hl2))⟩)
theorem tollwayref21_SameExclusions_2 (a_0 : (List Tapi_Exclusion)) (b_1 : (List Tapi_Exclusion)) (c1 : ¬ ((↑a_0.length : Int) = (↑b_1.length : Int))) : Ret Tryz.prog GT 41 [.lst (fl Tapi_Exclusion.enc a_0) a_0.length, .lst (fl Tapi_Exclusion.enc b_1) b_1.length] (.bool false) [] :=
  Ret.of_view 400 ((tollwayref21_SameExclusions_h1) ++ [.br true, .op none .c]) [] (ps := [((!((↑a_0.length : Int) == (↑b_1.length : Int))) = true)]) (by kernel_rfl) (by kernel_rfl) (ok1 (not_t (beq_f c1)))
theorem tollwayref21_SameExclusions_ret (a_0 : (List Tapi_Exclusion)) (b_1 : (List Tapi_Exclusion)) (r : Bool) (h : tollwayref21_SameExclusions a_0 b_1 = some r) : Ret Tryz.prog GT 41 [.lst (fl Tapi_Exclusion.enc a_0) a_0.length, .lst (fl Tapi_Exclusion.enc b_1) b_1.length] (.bool r) [] := by
  unfold tollwayref21_SameExclusions at h
  rcases ite_some h with ⟨c1, h⟩ | ⟨c1, h⟩
  · obtain ⟨qq, hl2, h⟩ := bind_some h
    rcases qq with o2 | o2
    · dsimp only at h
      simp only [Option.some.injEq] at h
      subst h
      exact tollwayref21_SameExclusions_0 a_0 b_1 c1 o2 hl2
    · dsimp only at h
      simp only [Option.some.injEq] at h
      subst h
      exact tollwayref21_SameExclusions_1 a_0 b_1 c1 o2 hl2
  · simp only [Option.some.injEq] at h
    subst h
    exact tollwayref21_SameExclusions_2 a_0 b_1 c1
noncomputable def tollwayref47_Same (a_0 : Tapi_Result) (b_1 : Tapi_Result) : Option Bool :=
  (tollwayref17_Same a_0.Passages b_1.Passages).bind fun r1 =>
  if r1 = true then
    (tollwayref16_SameRejects a_0.Rejects b_1.Rejects).bind fun r4 =>
    if r4 = true then
      (tollwayref21_Same a_0.Trips b_1.Trips).bind fun r7 =>
      if r7 = true then
        (tollwayref47_SameStays a_0.Stays b_1.Stays).bind fun r10 =>
        if r10 = true then
          (tollwayref31_Same a_0.Charges b_1.Charges).bind fun r13 =>
          if r13 = true then
            (tollwayref21_SameExclusions a_0.Exclusions b_1.Exclusions).bind fun r16 =>
            some r16
          else
            some false
        else
          some false
      else
        some false
    else
      some false
  else
    some false
def tollwayref47_Same_h1 (a_0 : Tapi_Result) (b_1 : Tapi_Result) (r1 : Bool) : List CH := (cs 7 [.ret none [.lst (fl Tapi_Passage.enc a_0.Passages) a_0.Passages.length, .lst (fl Tapi_Passage.enc b_1.Passages) b_1.Passages.length] (.bool r1) [], .op none .c])
def tollwayref47_Same_h2 (a_0 : Tapi_Result) (b_1 : Tapi_Result) (r4 : Bool) : List CH := ((.op (some true) .c) :: (cs 3 ((.ret none [.lst (fl Tapi_Reject.enc a_0.Rejects) a_0.Rejects.length, .lst (fl Tapi_Reject.enc b_1.Rejects) b_1.Rejects.length] (.bool r4) []) :: (cs 2 []))))
def tollwayref47_Same_h3 (a_0 : Tapi_Result) (b_1 : Tapi_Result) (r7 : Bool) : List CH := ((.op (some true) .c) :: (cs 3 ((.ret none [.lst (fl Tapi_Trip.enc a_0.Trips) a_0.Trips.length, .lst (fl Tapi_Trip.enc b_1.Trips) b_1.Trips.length] (.bool r7) []) :: (cs 2 []))))
def tollwayref47_Same_h4 (a_0 : Tapi_Result) (b_1 : Tapi_Result) (r10 : Bool) : List CH := ((.op (some true) .c) :: (cs 3 ((.ret none [.lst (fl Tapi_Stay.enc a_0.Stays) a_0.Stays.length, .lst (fl Tapi_Stay.enc b_1.Stays) b_1.Stays.length] (.bool r10) []) :: (cs 2 []))))
def tollwayref47_Same_h5 (a_0 : Tapi_Result) (b_1 : Tapi_Result) (r13 : Bool) : List CH := ((.op (some true) .c) :: (cs 3 ((.ret none [.lst (fl Tapi_Charge.enc a_0.Charges) a_0.Charges.length, .lst (fl Tapi_Charge.enc b_1.Charges) b_1.Charges.length] (.bool r13) []) :: (cs 2 []))))
def tollwayref47_Same_p6 (a_0 : Tapi_Result) (b_1 : Tapi_Result) (r1 : Bool) : List Prop := [((.lst (fl Tapi_Passage.enc a_0.Passages) a_0.Passages.length : AV) = .lst (fl Tapi_Passage.enc a_0.Passages) a_0.Passages.length), ((.lst (fl Tapi_Passage.enc b_1.Passages) b_1.Passages.length : AV) = .lst (fl Tapi_Passage.enc b_1.Passages) b_1.Passages.length), (Ret Tryz.prog GT 36 [.lst (fl Tapi_Passage.enc a_0.Passages) a_0.Passages.length, .lst (fl Tapi_Passage.enc b_1.Passages) b_1.Passages.length] (.bool r1) [])]
theorem tollwayref47_Same_p6q (a_0 : Tapi_Result) (b_1 : Tapi_Result) (r1 : Bool) (h2 : tollwayref17_Same a_0.Passages b_1.Passages = some r1) : allOk (tollwayref47_Same_p6 a_0 b_1 r1) := ⟨rfl, rfl, ok1 (tollwayref17_Same_ret a_0.Passages b_1.Passages r1 h2)⟩
def tollwayref47_Same_p7 (a_0 : Tapi_Result) (b_1 : Tapi_Result) (r1 : Bool) (r4 : Bool) : List Prop := [(r1 = true), ((.lst (fl Tapi_Reject.enc a_0.Rejects) a_0.Rejects.length : AV) = .lst (fl Tapi_Reject.enc a_0.Rejects) a_0.Rejects.length), ((.lst (fl Tapi_Reject.enc b_1.Rejects) b_1.Rejects.length : AV) = .lst (fl Tapi_Reject.enc b_1.Rejects) b_1.Rejects.length), (Ret Tryz.prog GT 37 [.lst (fl Tapi_Reject.enc a_0.Rejects) a_0.Rejects.length, .lst (fl Tapi_Reject.enc b_1.Rejects) b_1.Rejects.length] (.bool r4) [])]
theorem tollwayref47_Same_p7q (a_0 : Tapi_Result) (b_1 : Tapi_Result) (r1 : Bool) (c3 : r1 = true) (r4 : Bool) (h5 : tollwayref16_SameRejects a_0.Rejects b_1.Rejects = some r4) : allOk (tollwayref47_Same_p7 a_0 b_1 r1 r4) := ⟨c3, rfl, rfl, ok1 (tollwayref16_SameRejects_ret a_0.Rejects b_1.Rejects r4 h5)⟩
def tollwayref47_Same_p8 (a_0 : Tapi_Result) (b_1 : Tapi_Result) (r4 : Bool) (r7 : Bool) : List Prop := [(r4 = true), ((.lst (fl Tapi_Trip.enc a_0.Trips) a_0.Trips.length : AV) = .lst (fl Tapi_Trip.enc a_0.Trips) a_0.Trips.length), ((.lst (fl Tapi_Trip.enc b_1.Trips) b_1.Trips.length : AV) = .lst (fl Tapi_Trip.enc b_1.Trips) b_1.Trips.length), (Ret Tryz.prog GT 38 [.lst (fl Tapi_Trip.enc a_0.Trips) a_0.Trips.length, .lst (fl Tapi_Trip.enc b_1.Trips) b_1.Trips.length] (.bool r7) [])]
theorem tollwayref47_Same_p8q (a_0 : Tapi_Result) (b_1 : Tapi_Result) (r4 : Bool) (c6 : r4 = true) (r7 : Bool) (h8 : tollwayref21_Same a_0.Trips b_1.Trips = some r7) : allOk (tollwayref47_Same_p8 a_0 b_1 r4 r7) := ⟨c6, rfl, rfl, ok1 (tollwayref21_Same_ret a_0.Trips b_1.Trips r7 h8)⟩
def tollwayref47_Same_p9 (a_0 : Tapi_Result) (b_1 : Tapi_Result) (r7 : Bool) (r10 : Bool) : List Prop := [(r7 = true), ((.lst (fl Tapi_Stay.enc a_0.Stays) a_0.Stays.length : AV) = .lst (fl Tapi_Stay.enc a_0.Stays) a_0.Stays.length), ((.lst (fl Tapi_Stay.enc b_1.Stays) b_1.Stays.length : AV) = .lst (fl Tapi_Stay.enc b_1.Stays) b_1.Stays.length), (Ret Tryz.prog GT 39 [.lst (fl Tapi_Stay.enc a_0.Stays) a_0.Stays.length, .lst (fl Tapi_Stay.enc b_1.Stays) b_1.Stays.length] (.bool r10) [])]
theorem tollwayref47_Same_p9q (a_0 : Tapi_Result) (b_1 : Tapi_Result) (r7 : Bool) (c9 : r7 = true) (r10 : Bool) (h11 : tollwayref47_SameStays a_0.Stays b_1.Stays = some r10) : allOk (tollwayref47_Same_p9 a_0 b_1 r7 r10) := ⟨c9, rfl, rfl, ok1 (tollwayref47_SameStays_ret a_0.Stays b_1.Stays r10 h11)⟩
def tollwayref47_Same_p10 (a_0 : Tapi_Result) (b_1 : Tapi_Result) (r10 : Bool) (r13 : Bool) : List Prop := [(r10 = true), ((.lst (fl Tapi_Charge.enc a_0.Charges) a_0.Charges.length : AV) = .lst (fl Tapi_Charge.enc a_0.Charges) a_0.Charges.length), ((.lst (fl Tapi_Charge.enc b_1.Charges) b_1.Charges.length : AV) = .lst (fl Tapi_Charge.enc b_1.Charges) b_1.Charges.length), (Ret Tryz.prog GT 40 [.lst (fl Tapi_Charge.enc a_0.Charges) a_0.Charges.length, .lst (fl Tapi_Charge.enc b_1.Charges) b_1.Charges.length] (.bool r13) [])]
theorem tollwayref47_Same_p10q (a_0 : Tapi_Result) (b_1 : Tapi_Result) (r10 : Bool) (c12 : r10 = true) (r13 : Bool) (h14 : tollwayref31_Same a_0.Charges b_1.Charges = some r13) : allOk (tollwayref47_Same_p10 a_0 b_1 r10 r13) := ⟨c12, rfl, rfl, ok1 (tollwayref31_Same_ret a_0.Charges b_1.Charges r13 h14)⟩
theorem tollwayref47_Same_0 (a_0 : Tapi_Result) (b_1 : Tapi_Result) (r1 : Bool) (h2 : tollwayref17_Same a_0.Passages b_1.Passages = some r1) (c3 : r1 = true) (r4 : Bool) (h5 : tollwayref16_SameRejects a_0.Rejects b_1.Rejects = some r4) (c6 : r4 = true) (r7 : Bool) (h8 : tollwayref21_Same a_0.Trips b_1.Trips = some r7) (c9 : r7 = true) (r10 : Bool) (h11 : tollwayref47_SameStays a_0.Stays b_1.Stays = some r10) (c12 : r10 = true) (r13 : Bool) (h14 : tollwayref31_Same a_0.Charges b_1.Charges = some r13) (c15 : r13 = true) (r16 : Bool) (h17 : tollwayref21_SameExclusions a_0.Exclusions b_1.Exclusions = some r16) : Ret Tryz.prog GT 9 [.agg (Tapi_Result.enc a_0), .agg (Tapi_Result.enc b_1)] (.bool r16) [] :=
  Ret.of_view 400 ((tollwayref47_Same_h1 a_0 b_1 r1) ++ ((tollwayref47_Same_h2 a_0 b_1 r4) ++ ((tollwayref47_Same_h3 a_0 b_1 r7) ++ ((tollwayref47_Same_h4 a_0 b_1 r10) ++ ((tollwayref47_Same_h5 a_0 b_1 r13) ++ ((.op (some true) .c) :: (cs 3 ((.ret none [.lst (fl Tapi_Exclusion.enc a_0.Exclusions) a_0.Exclusions.length, .lst (fl Tapi_Exclusion.enc b_1.Exclusions) b_1.Exclusions.length] (.bool r16) []) :: (cs 2 []))))))))) [] (ps := ((tollwayref47_Same_p6 a_0 b_1 r1) ++ ((tollwayref47_Same_p7 a_0 b_1 r1 r4) ++ ((tollwayref47_Same_p8 a_0 b_1 r4 r7) ++ ((tollwayref47_Same_p9 a_0 b_1 r7 r10) ++ ((tollwayref47_Same_p10 a_0 b_1 r10 r13) ++ [(r13 = true), ((.lst (fl Tapi_Exclusion.enc a_0.Exclusions) a_0.Exclusions.length : AV) = .lst (fl Tapi_Exclusion.enc a_0.Exclusions) a_0.Exclusions.length), ((.lst (fl Tapi_Exclusion.enc b_1.Exclusions) b_1.Exclusions.length : AV) = .lst (fl Tapi_Exclusion.enc b_1.Exclusions) b_1.Exclusions.length), (Ret Tryz.prog GT 41 [.lst (fl Tapi_Exclusion.enc a_0.Exclusions) a_0.Exclusions.length, .lst (fl Tapi_Exclusion.enc b_1.Exclusions) b_1.Exclusions.length] (.bool r16) [])])))))) (by kernel_rfl) (by kernel_rfl) (allOk_append.2 ⟨(tollwayref47_Same_p6q a_0 b_1 r1 h2), (allOk_append.2 ⟨(tollwayref47_Same_p7q a_0 b_1 r1 c3 r4 h5), (allOk_append.2 ⟨(tollwayref47_Same_p8q a_0 b_1 r4 c6 r7 h8), (allOk_append.2 ⟨(tollwayref47_Same_p9q a_0 b_1 r7 c9 r10 h11), (allOk_append.2 ⟨(tollwayref47_Same_p10q a_0 b_1 r10 c12 r13 h14), ⟨c15, rfl, rfl, ok1 (tollwayref21_SameExclusions_ret a_0.Exclusions b_1.Exclusions r16 h17)⟩⟩)⟩)⟩)⟩)⟩)
theorem tollwayref47_Same_1 (a_0 : Tapi_Result) (b_1 : Tapi_Result) (r1 : Bool) (h2 : tollwayref17_Same a_0.Passages b_1.Passages = some r1) (c3 : r1 = true) (r4 : Bool) (h5 : tollwayref16_SameRejects a_0.Rejects b_1.Rejects = some r4) (c6 : r4 = true) (r7 : Bool) (h8 : tollwayref21_Same a_0.Trips b_1.Trips = some r7) (c9 : r7 = true) (r10 : Bool) (h11 : tollwayref47_SameStays a_0.Stays b_1.Stays = some r10) (c12 : r10 = true) (r13 : Bool) (h14 : tollwayref31_Same a_0.Charges b_1.Charges = some r13) (c15 : ¬ (r13 = true)) : Ret Tryz.prog GT 9 [.agg (Tapi_Result.enc a_0), .agg (Tapi_Result.enc b_1)] (.bool false) [] :=
  Ret.of_view 400 ((tollwayref47_Same_h1 a_0 b_1 r1) ++ ((tollwayref47_Same_h2 a_0 b_1 r4) ++ ((tollwayref47_Same_h3 a_0 b_1 r7) ++ ((tollwayref47_Same_h4 a_0 b_1 r10) ++ ((tollwayref47_Same_h5 a_0 b_1 r13) ++ ((.op (some false) .c) :: (cs 6 []))))))) [] (ps := ((tollwayref47_Same_p6 a_0 b_1 r1) ++ ((tollwayref47_Same_p7 a_0 b_1 r1 r4) ++ ((tollwayref47_Same_p8 a_0 b_1 r4 r7) ++ ((tollwayref47_Same_p9 a_0 b_1 r7 r10) ++ ((tollwayref47_Same_p10 a_0 b_1 r10 r13) ++ [(r13 = false)])))))) (by kernel_rfl) (by kernel_rfl) (allOk_append.2 ⟨(tollwayref47_Same_p6q a_0 b_1 r1 h2), (allOk_append.2 ⟨(tollwayref47_Same_p7q a_0 b_1 r1 c3 r4 h5), (allOk_append.2 ⟨(tollwayref47_Same_p8q a_0 b_1 r4 c6 r7 h8), (allOk_append.2 ⟨(tollwayref47_Same_p9q a_0 b_1 r7 c9 r10 h11), (allOk_append.2 ⟨(tollwayref47_Same_p10q a_0 b_1 r10 c12 r13 h14), (ok1 (eq_false_of_ne_true c15))⟩)⟩)⟩)⟩)⟩)
theorem tollwayref47_Same_2 (a_0 : Tapi_Result) (b_1 : Tapi_Result) (r1 : Bool) (h2 : tollwayref17_Same a_0.Passages b_1.Passages = some r1) (c3 : r1 = true) (r4 : Bool) (h5 : tollwayref16_SameRejects a_0.Rejects b_1.Rejects = some r4) (c6 : r4 = true) (r7 : Bool) (h8 : tollwayref21_Same a_0.Trips b_1.Trips = some r7) (c9 : r7 = true) (r10 : Bool) (h11 : tollwayref47_SameStays a_0.Stays b_1.Stays = some r10) (c12 : ¬ (r10 = true)) : Ret Tryz.prog GT 9 [.agg (Tapi_Result.enc a_0), .agg (Tapi_Result.enc b_1)] (.bool false) [] :=
  Ret.of_view 400 ((tollwayref47_Same_h1 a_0 b_1 r1) ++ ((tollwayref47_Same_h2 a_0 b_1 r4) ++ ((tollwayref47_Same_h3 a_0 b_1 r7) ++ ((tollwayref47_Same_h4 a_0 b_1 r10) ++ ((.op (some false) .c) :: (cs 13 [])))))) [] (ps := ((tollwayref47_Same_p6 a_0 b_1 r1) ++ ((tollwayref47_Same_p7 a_0 b_1 r1 r4) ++ ((tollwayref47_Same_p8 a_0 b_1 r4 r7) ++ ((tollwayref47_Same_p9 a_0 b_1 r7 r10) ++ [(r10 = false)]))))) (by kernel_rfl) (by kernel_rfl) (allOk_append.2 ⟨(tollwayref47_Same_p6q a_0 b_1 r1 h2), (allOk_append.2 ⟨(tollwayref47_Same_p7q a_0 b_1 r1 c3 r4 h5), (allOk_append.2 ⟨(tollwayref47_Same_p8q a_0 b_1 r4 c6 r7 h8), (allOk_append.2 ⟨(tollwayref47_Same_p9q a_0 b_1 r7 c9 r10 h11), (ok1 (eq_false_of_ne_true c12))⟩)⟩)⟩)⟩)
theorem tollwayref47_Same_3 (a_0 : Tapi_Result) (b_1 : Tapi_Result) (r1 : Bool) (h2 : tollwayref17_Same a_0.Passages b_1.Passages = some r1) (c3 : r1 = true) (r4 : Bool) (h5 : tollwayref16_SameRejects a_0.Rejects b_1.Rejects = some r4) (c6 : r4 = true) (r7 : Bool) (h8 : tollwayref21_Same a_0.Trips b_1.Trips = some r7) (c9 : ¬ (r7 = true)) : Ret Tryz.prog GT 9 [.agg (Tapi_Result.enc a_0), .agg (Tapi_Result.enc b_1)] (.bool false) [] :=
  Ret.of_view 400 ((tollwayref47_Same_h1 a_0 b_1 r1) ++ ((tollwayref47_Same_h2 a_0 b_1 r4) ++ ((tollwayref47_Same_h3 a_0 b_1 r7) ++ ((.op (some false) .c) :: (cs 20 []))))) [] (ps := ((tollwayref47_Same_p6 a_0 b_1 r1) ++ ((tollwayref47_Same_p7 a_0 b_1 r1 r4) ++ ((tollwayref47_Same_p8 a_0 b_1 r4 r7) ++ [(r7 = false)])))) (by kernel_rfl) (by kernel_rfl) (allOk_append.2 ⟨(tollwayref47_Same_p6q a_0 b_1 r1 h2), (allOk_append.2 ⟨(tollwayref47_Same_p7q a_0 b_1 r1 c3 r4 h5), (allOk_append.2 ⟨(tollwayref47_Same_p8q a_0 b_1 r4 c6 r7 h8), (ok1 (eq_false_of_ne_true c9))⟩)⟩)⟩)
theorem tollwayref47_Same_4 (a_0 : Tapi_Result) (b_1 : Tapi_Result) (r1 : Bool) (h2 : tollwayref17_Same a_0.Passages b_1.Passages = some r1) (c3 : r1 = true) (r4 : Bool) (h5 : tollwayref16_SameRejects a_0.Rejects b_1.Rejects = some r4) (c6 : ¬ (r4 = true)) : Ret Tryz.prog GT 9 [.agg (Tapi_Result.enc a_0), .agg (Tapi_Result.enc b_1)] (.bool false) [] :=
  Ret.of_view 400 ((tollwayref47_Same_h1 a_0 b_1 r1) ++ ((tollwayref47_Same_h2 a_0 b_1 r4) ++ ((.op (some false) .c) :: (cs 27 [])))) [] (ps := ((tollwayref47_Same_p6 a_0 b_1 r1) ++ ((tollwayref47_Same_p7 a_0 b_1 r1 r4) ++ [(r4 = false)]))) (by kernel_rfl) (by kernel_rfl) (allOk_append.2 ⟨(tollwayref47_Same_p6q a_0 b_1 r1 h2), (allOk_append.2 ⟨(tollwayref47_Same_p7q a_0 b_1 r1 c3 r4 h5), (ok1 (eq_false_of_ne_true c6))⟩)⟩)
theorem tollwayref47_Same_5 (a_0 : Tapi_Result) (b_1 : Tapi_Result) (r1 : Bool) (h2 : tollwayref17_Same a_0.Passages b_1.Passages = some r1) (c3 : ¬ (r1 = true)) : Ret Tryz.prog GT 9 [.agg (Tapi_Result.enc a_0), .agg (Tapi_Result.enc b_1)] (.bool false) [] :=
  Ret.of_view 400 ((tollwayref47_Same_h1 a_0 b_1 r1) ++ ((.op (some false) .c) :: (cs 34 []))) [] (ps := ((tollwayref47_Same_p6 a_0 b_1 r1) ++ [(r1 = false)])) (by kernel_rfl) (by kernel_rfl) (allOk_append.2 ⟨(tollwayref47_Same_p6q a_0 b_1 r1 h2), (ok1 (eq_false_of_ne_true c3))⟩)
theorem tollwayref47_Same_ret (a_0 : Tapi_Result) (b_1 : Tapi_Result) (r : Bool) (h : tollwayref47_Same a_0 b_1 = some r) : Ret Tryz.prog GT 9 [.agg (Tapi_Result.enc a_0), .agg (Tapi_Result.enc b_1)] (.bool r) [] := by
  unfold tollwayref47_Same at h
  obtain ⟨r1, h2, h⟩ := bind_some h
  rcases ite_some h with ⟨c3, h⟩ | ⟨c3, h⟩
  · obtain ⟨r4, h5, h⟩ := bind_some h
    rcases ite_some h with ⟨c6, h⟩ | ⟨c6, h⟩
    · obtain ⟨r7, h8, h⟩ := bind_some h
      rcases ite_some h with ⟨c9, h⟩ | ⟨c9, h⟩
      · obtain ⟨r10, h11, h⟩ := bind_some h
        rcases ite_some h with ⟨c12, h⟩ | ⟨c12, h⟩
        · obtain ⟨r13, h14, h⟩ := bind_some h
          rcases ite_some h with ⟨c15, h⟩ | ⟨c15, h⟩
          · obtain ⟨r16, h17, h⟩ := bind_some h
            simp only [Option.some.injEq] at h
            subst h
            exact tollwayref47_Same_0 a_0 b_1 r1 h2 c3 r4 h5 c6 r7 h8 c9 r10 h11 c12 r13 h14 c15 r16 h17
          · simp only [Option.some.injEq] at h
            subst h
            exact tollwayref47_Same_1 a_0 b_1 r1 h2 c3 r4 h5 c6 r7 h8 c9 r10 h11 c12 r13 h14 c15
        · simp only [Option.some.injEq] at h
          subst h
          exact tollwayref47_Same_2 a_0 b_1 r1 h2 c3 r4 h5 c6 r7 h8 c9 r10 h11 c12
      · simp only [Option.some.injEq] at h
        subst h
        exact tollwayref47_Same_3 a_0 b_1 r1 h2 c3 r4 h5 c6 r7 h8 c9
    · simp only [Option.some.injEq] at h
      subst h
      exact tollwayref47_Same_4 a_0 b_1 r1 h2 c3 r4 h5 c6
  · simp only [Option.some.injEq] at h
    subst h
    exact tollwayref47_Same_5 a_0 b_1 r1 h2 c3
end Go.Proofs.YtnlaiahcemckkaaGreatDoor.Av
