import Derived.Test.YteljonodbkkckaaDoorAvX
import Derived.Test.YteljonodbkkckaaDoorProg
import Derived.Tactics
import Derived.Test.YteljonodbkkckaaDoorM3
set_option linter.unusedVariables false
set_option linter.unusedSimpArgs false
set_option maxHeartbeats 4000000
namespace Go.Proofs.YteljonodbkkckaaDoor.Av
open Go Go.Proofs
/-- what the closed part of a law comes to -/
def awakeF : Option Bool := some true
theorem awake_ret (r : Bool) (h : awakeF = some r) : Ret Tryd.prog GT 8 [] (.bool r) [] := by
  cases h
  exact Ret.of_view 10000 [] [] (ps := []) (by kernel_rfl) (by kernel_rfl) trivial
noncomputable def tollwaylaw03_MoneyTexts (n_0 : Int) (s_1 : (List UInt8)) : Option Bool :=
  if (↑s_1.length : Int) > (2000 : Int) then
    (awakeF).bind fun r2 =>
    some r2
  else
    (money_Parse s_1).bind fun r4 =>
    (tollwayref03_Parse s_1).bind fun r6 =>
    (money_Show n_0).bind fun r8 =>
    (tollwayref03_Show n_0).bind fun r10 =>
    if r8 = r10 then
      if r4.1 = r6.1 then
        if r4.2 = r6.2 then
          (awakeF).bind fun r15 =>
          some r15
        else
          some false
      else
        some false
    else
      some false
theorem tollwaylaw03_MoneyTexts_0 (n_0 : Int) (s_1 : (List UInt8)) (c1 : (↑s_1.length : Int) > (2000 : Int)) (r2 : Bool) (h3 : awakeF = some r2) : Ret Tryd.prog GT 5 [.int .i64 n_0, .str s_1] (.bool r2) [] :=
  Ret.of_view 400 (cs 3 [.op none .a, .br true, .ret none [] (.bool r2) [], .op none .c]) [] (ps := [((decide ((↑s_1.length : Int) > (2000 : Int))) = true), (Ret Tryd.prog GT 8 [] (.bool r2) [])]) (by kernel_rfl) (by kernel_rfl) ⟨(decide_eq_true c1), ok1 (awake_ret r2 h3)⟩
theorem tollwaylaw03_MoneyTexts_1 (n_0 : Int) (s_1 : (List UInt8)) (c1 : ¬ ((↑s_1.length : Int) > (2000 : Int))) (r4 : (Int × Int)) (h5 : money_Parse s_1 = some r4) (r6 : (Int × Int)) (h7 : tollwayref03_Parse s_1 = some r6) (r8 : (List UInt8)) (h9 : money_Show n_0 = some r8) (r10 : (List UInt8)) (h11 : tollwayref03_Show n_0 = some r10) (c12 : r8 = r10) (c13 : r4.1 = r6.1) (c14 : r4.2 = r6.2) (r15 : Bool) (h16 : awakeF = some r15) : Ret Tryd.prog GT 5 [.int .i64 n_0, .str s_1] (.bool r15) [] :=
  Ret.of_view 400 (cs 3 ((.op none .a) :: (.br false) :: (.op none .c) :: (.ret none [.str s_1] (.tup [.int .i64 r4.1, .int .i64 r4.2]) []) :: (cs 6 ((.ret none [.str s_1] (.tup [.int .i64 r6.1, .int .i64 r6.2]) []) :: (cs 6 ((.ret none [.int .i64 n_0] (.str r8) []) :: (.op none .c) :: (.ret none [.int .i64 n_0] (.str r10) []) :: (.op none .a) :: (.op none .c) :: (.op (some true) .c) :: (.op none .c) :: (.op none .a) :: (cs 2 ((.op (some true) .c) :: (.op none .c) :: (.op none .a) :: (cs 2 ((.ret (some true) [] (.bool r15) []) :: (cs 2 []))))))))))) [] (ps := [((decide ((↑s_1.length : Int) > (2000 : Int))) = false), ((.str s_1 : AV) = .str s_1), (Ret Tryd.prog GT 12 [.str s_1] (.tup [.int .i64 r4.1, .int .i64 r4.2]) []), ((.str s_1 : AV) = .str s_1), (Ret Tryd.prog GT 13 [.str s_1] (.tup [.int .i64 r6.1, .int .i64 r6.2]) []), ((.int .i64 n_0 : AV) = .int .i64 n_0), (Ret Tryd.prog GT 14 [.int .i64 n_0] (.str r8) []), ((.int .i64 n_0 : AV) = .int .i64 n_0), (Ret Tryd.prog GT 15 [.int .i64 n_0] (.str r10) []), ((r8 == r10) = true), ((r4.1 == r6.1) = true), ((r4.2 == r6.2) = true), (Ret Tryd.prog GT 8 [] (.bool r15) [])]) (by kernel_rfl) (by kernel_rfl) ⟨(decide_eq_false c1), rfl, (money_Parse_ret s_1 r4 h5), rfl, (tollwayref03_Parse_ret s_1 r6 h7), rfl, (money_Show_ret n_0 r8 h9), rfl, (tollwayref03_Show_ret n_0 r10 h11), (beq_t c12), (beq_t c13), (beq_t c14), ok1 (awake_ret r15 h16)⟩
theorem tollwaylaw03_MoneyTexts_2 (n_0 : Int) (s_1 : (List UInt8)) (c1 : ¬ ((↑s_1.length : Int) > (2000 : Int))) (r4 : (Int × Int)) (h5 : money_Parse s_1 = some r4) (r6 : (Int × Int)) (h7 : tollwayref03_Parse s_1 = some r6) (r8 : (List UInt8)) (h9 : money_Show n_0 = some r8) (r10 : (List UInt8)) (h11 : tollwayref03_Show n_0 = some r10) (c12 : r8 = r10) (c13 : r4.1 = r6.1) (c14 : ¬ (r4.2 = r6.2)) : Ret Tryd.prog GT 5 [.int .i64 n_0, .str s_1] (.bool false) [] :=
  Ret.of_view 400 (cs 3 ((.op none .a) :: (.br false) :: (.op none .c) :: (.ret none [.str s_1] (.tup [.int .i64 r4.1, .int .i64 r4.2]) []) :: (cs 6 ((.ret none [.str s_1] (.tup [.int .i64 r6.1, .int .i64 r6.2]) []) :: (cs 6 ((.ret none [.int .i64 n_0] (.str r8) []) :: (.op none .c) :: (.ret none [.int .i64 n_0] (.str r10) []) :: (.op none .a) :: (.op none .c) :: (.op (some true) .c) :: (.op none .c) :: (.op none .a) :: (cs 2 ((.op (some true) .c) :: (.op none .c) :: (.op none .a) :: (cs 2 ((.op (some false) .c) :: (cs 2 []))))))))))) [] (ps := [((decide ((↑s_1.length : Int) > (2000 : Int))) = false), ((.str s_1 : AV) = .str s_1), (Ret Tryd.prog GT 12 [.str s_1] (.tup [.int .i64 r4.1, .int .i64 r4.2]) []), ((.str s_1 : AV) = .str s_1), (Ret Tryd.prog GT 13 [.str s_1] (.tup [.int .i64 r6.1, .int .i64 r6.2]) []), ((.int .i64 n_0 : AV) = .int .i64 n_0), (Ret Tryd.prog GT 14 [.int .i64 n_0] (.str r8) []), ((.int .i64 n_0 : AV) = .int .i64 n_0), (Ret Tryd.prog GT 15 [.int .i64 n_0] (.str r10) []), ((r8 == r10) = true), ((r4.1 == r6.1) = true), ((r4.2 == r6.2) = false)]) (by kernel_rfl) (by kernel_rfl) ⟨(decide_eq_false c1), rfl, (money_Parse_ret s_1 r4 h5), rfl, (tollwayref03_Parse_ret s_1 r6 h7), rfl, (money_Show_ret n_0 r8 h9), rfl, (tollwayref03_Show_ret n_0 r10 h11), (beq_t c12), (beq_t c13), ok1 (beq_f c14)⟩
theorem tollwaylaw03_MoneyTexts_3 (n_0 : Int) (s_1 : (List UInt8)) (c1 : ¬ ((↑s_1.length : Int) > (2000 : Int))) (r4 : (Int × Int)) (h5 : money_Parse s_1 = some r4) (r6 : (Int × Int)) (h7 : tollwayref03_Parse s_1 = some r6) (r8 : (List UInt8)) (h9 : money_Show n_0 = some r8) (r10 : (List UInt8)) (h11 : tollwayref03_Show n_0 = some r10) (c12 : r8 = r10) (c13 : ¬ (r4.1 = r6.1)) : Ret Tryd.prog GT 5 [.int .i64 n_0, .str s_1] (.bool false) [] :=
  Ret.of_view 400 (cs 3 ((.op none .a) :: (.br false) :: (.op none .c) :: (.ret none [.str s_1] (.tup [.int .i64 r4.1, .int .i64 r4.2]) []) :: (cs 6 ((.ret none [.str s_1] (.tup [.int .i64 r6.1, .int .i64 r6.2]) []) :: (cs 6 ((.ret none [.int .i64 n_0] (.str r8) []) :: (.op none .c) :: (.ret none [.int .i64 n_0] (.str r10) []) :: (.op none .a) :: (.op none .c) :: (.op (some true) .c) :: (.op none .c) :: (.op none .a) :: (cs 2 ((.op (some false) .c) :: (cs 7 []))))))))) [] (ps := [((decide ((↑s_1.length : Int) > (2000 : Int))) = false), ((.str s_1 : AV) = .str s_1), (Ret Tryd.prog GT 12 [.str s_1] (.tup [.int .i64 r4.1, .int .i64 r4.2]) []), ((.str s_1 : AV) = .str s_1), (Ret Tryd.prog GT 13 [.str s_1] (.tup [.int .i64 r6.1, .int .i64 r6.2]) []), ((.int .i64 n_0 : AV) = .int .i64 n_0), (Ret Tryd.prog GT 14 [.int .i64 n_0] (.str r8) []), ((.int .i64 n_0 : AV) = .int .i64 n_0), (Ret Tryd.prog GT 15 [.int .i64 n_0] (.str r10) []), ((r8 == r10) = true), ((r4.1 == r6.1) = false)]) (by kernel_rfl) (by kernel_rfl) ⟨(decide_eq_false c1), rfl, (money_Parse_ret s_1 r4 h5), rfl, (tollwayref03_Parse_ret s_1 r6 h7), rfl, (money_Show_ret n_0 r8 h9), rfl, (tollwayref03_Show_ret n_0 r10 h11), (beq_t c12), ok1 (beq_f c13)⟩
theorem tollwaylaw03_MoneyTexts_4 (n_0 : Int) (s_1 : (List UInt8)) (c1 : ¬ ((↑s_1.length : Int) > (2000 : Int))) (r4 : (Int × Int)) (h5 : money_Parse s_1 = some r4) (r6 : (Int × Int)) (h7 : tollwayref03_Parse s_1 = some r6) (r8 : (List UInt8)) (h9 : money_Show n_0 = some r8) (r10 : (List UInt8)) (h11 : tollwayref03_Show n_0 = some r10) (c12 : ¬ (r8 = r10)) : Ret Tryd.prog GT 5 [.int .i64 n_0, .str s_1] (.bool false) [] :=
  Ret.of_view 400 (cs 3 ((.op none .a) :: (.br false) :: (.op none .c) :: (.ret none [.str s_1] (.tup [.int .i64 r4.1, .int .i64 r4.2]) []) :: (cs 6 ((.ret none [.str s_1] (.tup [.int .i64 r6.1, .int .i64 r6.2]) []) :: (cs 6 ((.ret none [.int .i64 n_0] (.str r8) []) :: (.op none .c) :: (.ret none [.int .i64 n_0] (.str r10) []) :: (.op none .a) :: (.op none .c) :: (.op (some false) .c) :: (cs 12 []))))))) [] (ps := [((decide ((↑s_1.length : Int) > (2000 : Int))) = false), ((.str s_1 : AV) = .str s_1), (Ret Tryd.prog GT 12 [.str s_1] (.tup [.int .i64 r4.1, .int .i64 r4.2]) []), ((.str s_1 : AV) = .str s_1), (Ret Tryd.prog GT 13 [.str s_1] (.tup [.int .i64 r6.1, .int .i64 r6.2]) []), ((.int .i64 n_0 : AV) = .int .i64 n_0), (Ret Tryd.prog GT 14 [.int .i64 n_0] (.str r8) []), ((.int .i64 n_0 : AV) = .int .i64 n_0), (Ret Tryd.prog GT 15 [.int .i64 n_0] (.str r10) []), ((r8 == r10) = false)]) (by kernel_rfl) (by kernel_rfl) ⟨(decide_eq_false c1), rfl, (money_Parse_ret s_1 r4 h5), rfl, (tollwayref03_Parse_ret s_1 r6 h7), rfl, (money_Show_ret n_0 r8 h9), rfl, (tollwayref03_Show_ret n_0 r10 h11), ok1 (beq_f c12)⟩
theorem tollwaylaw03_MoneyTexts_ret (n_0 : Int) (s_1 : (List UInt8)) (r : Bool) (h : tollwaylaw03_MoneyTexts n_0 s_1 = some r) : Ret Tryd.prog GT 5 [.int .i64 n_0, .str s_1] (.bool r) [] := by
  unfold tollwaylaw03_MoneyTexts at h
  rcases ite_some h with ⟨c1, h⟩ | ⟨c1, h⟩
  · obtain ⟨r2, h3, h⟩ := bind_some h
    simp only [Option.some.injEq] at h
    subst h
    exact tollwaylaw03_MoneyTexts_0 n_0 s_1 c1 r2 h3
  · obtain ⟨r4, h5, h⟩ := bind_some h
    obtain ⟨r6, h7, h⟩ := bind_some h
    obtain ⟨r8, h9, h⟩ := bind_some h
    obtain ⟨r10, h11, h⟩ := bind_some h
    rcases ite_some h with ⟨c12, h⟩ | ⟨c12, h⟩
    · rcases ite_some h with ⟨c13, h⟩ | ⟨c13, h⟩
      · rcases ite_some h with ⟨c14, h⟩ | ⟨c14, h⟩
        · obtain ⟨r15, h16, h⟩ := bind_some h
          simp only [Option.some.injEq] at h
          subst h
          exact tollwaylaw03_MoneyTexts_1 n_0 s_1 c1 r4 h5 r6 h7 r8 h9 r10 h11 c12 c13 c14 r15 h16
        · simp only [Option.some.injEq] at h
          subst h
          exact tollwaylaw03_MoneyTexts_2 n_0 s_1 c1 r4 h5 r6 h7 r8 h9 r10 h11 c12 c13 c14
      · simp only [Option.some.injEq] at h
        subst h
        exact tollwaylaw03_MoneyTexts_3 n_0 s_1 c1 r4 h5 r6 h7 r8 h9 r10 h11 c12 c13
    · simp only [Option.some.injEq] at h
      subst h
      exact tollwaylaw03_MoneyTexts_4 n_0 s_1 c1 r4 h5 r6 h7 r8 h9 r10 h11 c12
end Go.Proofs.YteljonodbkkckaaDoor.Av
