import Derived.Test.YteljonodbkkckaaDoorAvX
import Derived.Test.YteljonodbkkckaaDoorProg
import Derived.Tactics
import Derived.Test.YteljonodbkkckaaDoorAwM
import Derived.Test.YteljonodbkkckaaDoorE0
import Derived.Test.YteljonodbkkckaaDoorE1
import Derived.Test.YteljonodbkkckaaDoorE1b
set_option linter.unusedVariables false
set_option linter.unusedSimpArgs false
set_option maxHeartbeats 4000000
namespace Go.Proofs.YteljonodbkkckaaDoor.Av
open Go Go.Proofs
structure Ttollwaylaw03_Fraction where
  N : Int
  Num : Int
  Den : Int
  Mode : Int
def Ttollwaylaw03_Fraction.enc (x : Ttollwaylaw03_Fraction) : List AV := [.int .i64 x.N, .int .i64 x.Num, .int .i64 x.Den, .int .i64 x.Mode]
noncomputable def tollwaylaw03_MoneyRatios (x_0 : Ttollwaylaw03_Fraction) : Option Bool :=
  (money_Ratio x_0.N x_0.Num x_0.Den x_0.Mode).bind fun r1 =>
  (tollwayref03_Ratio x_0.N x_0.Num x_0.Den x_0.Mode).bind fun r3 =>
  if r1.1 = r3.1 then
    if r1.2 = r3.2 then
      (awakeF).bind fun r7 =>
      some r7
    else
      some false
  else
    some false
theorem tollwaylaw03_MoneyRatios_0 (x_0 : Ttollwaylaw03_Fraction) (r1 : (Int × Int)) (h2 : money_Ratio x_0.N x_0.Num x_0.Den x_0.Mode = some r1) (r3 : (Int × Int)) (h4 : tollwayref03_Ratio x_0.N x_0.Num x_0.Den x_0.Mode = some r3) (c5 : r1.1 = r3.1) (c6 : r1.2 = r3.2) (r7 : Bool) (h8 : awakeF = some r7) : Ret Tryd.prog G0 3 [.agg (Ttollwaylaw03_Fraction.enc x_0)] (.bool r7) [] :=
  Ret.of_view 400 (cs 10 ((.ret none [.int .i64 x_0.N, .int .i64 x_0.Num, .int .i64 x_0.Den, .int .i64 x_0.Mode] (.tup [.int .i64 r1.1, .int .i64 r1.2]) []) :: (cs 13 ((.ret none [.int .i64 x_0.N, .int .i64 x_0.Num, .int .i64 x_0.Den, .int .i64 x_0.Mode] (.tup [.int .i64 r3.1, .int .i64 r3.2]) []) :: (cs 7 ((.op none .a) :: (.op none .c) :: (.op (some true) .c) :: (.op none .c) :: (.op none .a) :: (cs 2 ((.ret (some true) [] (.bool r7) []) :: (cs 2 []))))))))) [] (ps := [((.int .i64 x_0.N : AV) = .int .i64 x_0.N), ((.int .i64 x_0.Num : AV) = .int .i64 x_0.Num), ((.int .i64 x_0.Den : AV) = .int .i64 x_0.Den), ((.int .i64 x_0.Mode : AV) = .int .i64 x_0.Mode), (Ret Tryd.prog G0 6 [.int .i64 x_0.N, .int .i64 x_0.Num, .int .i64 x_0.Den, .int .i64 x_0.Mode] (.tup [.int .i64 r1.1, .int .i64 r1.2]) []), ((.int .i64 x_0.N : AV) = .int .i64 x_0.N), ((.int .i64 x_0.Num : AV) = .int .i64 x_0.Num), ((.int .i64 x_0.Den : AV) = .int .i64 x_0.Den), ((.int .i64 x_0.Mode : AV) = .int .i64 x_0.Mode), (Ret Tryd.prog G0 7 [.int .i64 x_0.N, .int .i64 x_0.Num, .int .i64 x_0.Den, .int .i64 x_0.Mode] (.tup [.int .i64 r3.1, .int .i64 r3.2]) []), ((r1.1 == r3.1) = true), ((r1.2 == r3.2) = true), (Ret Tryd.prog G0 8 [] (.bool r7) [])]) (by kernel_rfl) (by kernel_rfl) ⟨rfl, rfl, rfl, rfl, (money_Ratio_ret x_0.N x_0.Num x_0.Den x_0.Mode r1 h2), rfl, rfl, rfl, rfl, (tollwayref03_Ratio_ret x_0.N x_0.Num x_0.Den x_0.Mode r3 h4), (beq_t c5), (beq_t c6), ok1 (awake_ret r7 h8)⟩
theorem tollwaylaw03_MoneyRatios_1 (x_0 : Ttollwaylaw03_Fraction) (r1 : (Int × Int)) (h2 : money_Ratio x_0.N x_0.Num x_0.Den x_0.Mode = some r1) (r3 : (Int × Int)) (h4 : tollwayref03_Ratio x_0.N x_0.Num x_0.Den x_0.Mode = some r3) (c5 : r1.1 = r3.1) (c6 : ¬ (r1.2 = r3.2)) : Ret Tryd.prog G0 3 [.agg (Ttollwaylaw03_Fraction.enc x_0)] (.bool false) [] :=
  Ret.of_view 400 (cs 10 ((.ret none [.int .i64 x_0.N, .int .i64 x_0.Num, .int .i64 x_0.Den, .int .i64 x_0.Mode] (.tup [.int .i64 r1.1, .int .i64 r1.2]) []) :: (cs 13 ((.ret none [.int .i64 x_0.N, .int .i64 x_0.Num, .int .i64 x_0.Den, .int .i64 x_0.Mode] (.tup [.int .i64 r3.1, .int .i64 r3.2]) []) :: (cs 7 ((.op none .a) :: (.op none .c) :: (.op (some true) .c) :: (.op none .c) :: (.op none .a) :: (cs 2 ((.op (some false) .c) :: (cs 2 []))))))))) [] (ps := [((.int .i64 x_0.N : AV) = .int .i64 x_0.N), ((.int .i64 x_0.Num : AV) = .int .i64 x_0.Num), ((.int .i64 x_0.Den : AV) = .int .i64 x_0.Den), ((.int .i64 x_0.Mode : AV) = .int .i64 x_0.Mode), (Ret Tryd.prog G0 6 [.int .i64 x_0.N, .int .i64 x_0.Num, .int .i64 x_0.Den, .int .i64 x_0.Mode] (.tup [.int .i64 r1.1, .int .i64 r1.2]) []), ((.int .i64 x_0.N : AV) = .int .i64 x_0.N), ((.int .i64 x_0.Num : AV) = .int .i64 x_0.Num), ((.int .i64 x_0.Den : AV) = .int .i64 x_0.Den), ((.int .i64 x_0.Mode : AV) = .int .i64 x_0.Mode), (Ret Tryd.prog G0 7 [.int .i64 x_0.N, .int .i64 x_0.Num, .int .i64 x_0.Den, .int .i64 x_0.Mode] (.tup [.int .i64 r3.1, .int .i64 r3.2]) []), ((r1.1 == r3.1) = true), ((r1.2 == r3.2) = false)]) (by kernel_rfl) (by kernel_rfl) ⟨rfl, rfl, rfl, rfl, (money_Ratio_ret x_0.N x_0.Num x_0.Den x_0.Mode r1 h2), rfl, rfl, rfl, rfl, (tollwayref03_Ratio_ret x_0.N x_0.Num x_0.Den x_0.Mode r3 h4), (beq_t c5), ok1 (beq_f c6)⟩
theorem tollwaylaw03_MoneyRatios_2 (x_0 : Ttollwaylaw03_Fraction) (r1 : (Int × Int)) (h2 : money_Ratio x_0.N x_0.Num x_0.Den x_0.Mode = some r1) (r3 : (Int × Int)) (h4 : tollwayref03_Ratio x_0.N x_0.Num x_0.Den x_0.Mode = some r3) (c5 : ¬ (r1.1 = r3.1)) : Ret Tryd.prog G0 3 [.agg (Ttollwaylaw03_Fraction.enc x_0)] (.bool false) [] :=
  Ret.of_view 400 (cs 10 ((.ret none [.int .i64 x_0.N, .int .i64 x_0.Num, .int .i64 x_0.Den, .int .i64 x_0.Mode] (.tup [.int .i64 r1.1, .int .i64 r1.2]) []) :: (cs 13 ((.ret none [.int .i64 x_0.N, .int .i64 x_0.Num, .int .i64 x_0.Den, .int .i64 x_0.Mode] (.tup [.int .i64 r3.1, .int .i64 r3.2]) []) :: (cs 7 ((.op none .a) :: (.op none .c) :: (.op (some false) .c) :: (cs 7 []))))))) [] (ps := [((.int .i64 x_0.N : AV) = .int .i64 x_0.N), ((.int .i64 x_0.Num : AV) = .int .i64 x_0.Num), ((.int .i64 x_0.Den : AV) = .int .i64 x_0.Den), ((.int .i64 x_0.Mode : AV) = .int .i64 x_0.Mode), (Ret Tryd.prog G0 6 [.int .i64 x_0.N, .int .i64 x_0.Num, .int .i64 x_0.Den, .int .i64 x_0.Mode] (.tup [.int .i64 r1.1, .int .i64 r1.2]) []), ((.int .i64 x_0.N : AV) = .int .i64 x_0.N), ((.int .i64 x_0.Num : AV) = .int .i64 x_0.Num), ((.int .i64 x_0.Den : AV) = .int .i64 x_0.Den), ((.int .i64 x_0.Mode : AV) = .int .i64 x_0.Mode), (Ret Tryd.prog G0 7 [.int .i64 x_0.N, .int .i64 x_0.Num, .int .i64 x_0.Den, .int .i64 x_0.Mode] (.tup [.int .i64 r3.1, .int .i64 r3.2]) []), ((r1.1 == r3.1) = false)]) (by kernel_rfl) (by kernel_rfl) ⟨rfl, rfl, rfl, rfl, (money_Ratio_ret x_0.N x_0.Num x_0.Den x_0.Mode r1 h2), rfl, rfl, rfl, rfl, (tollwayref03_Ratio_ret x_0.N x_0.Num x_0.Den x_0.Mode r3 h4), ok1 (beq_f c5)⟩
theorem tollwaylaw03_MoneyRatios_ret (x_0 : Ttollwaylaw03_Fraction) (r : Bool) (h : tollwaylaw03_MoneyRatios x_0 = some r) : Ret Tryd.prog G0 3 [.agg (Ttollwaylaw03_Fraction.enc x_0)] (.bool r) [] := by
  unfold tollwaylaw03_MoneyRatios at h
  obtain ⟨r1, h2, h⟩ := bind_some h
  obtain ⟨r3, h4, h⟩ := bind_some h
  rcases ite_some h with ⟨c5, h⟩ | ⟨c5, h⟩
  · rcases ite_some h with ⟨c6, h⟩ | ⟨c6, h⟩
    · obtain ⟨r7, h8, h⟩ := bind_some h
      simp only [Option.some.injEq] at h
      subst h
      exact tollwaylaw03_MoneyRatios_0 x_0 r1 h2 r3 h4 c5 c6 r7 h8
    · simp only [Option.some.injEq] at h
      subst h
      exact tollwaylaw03_MoneyRatios_1 x_0 r1 h2 r3 h4 c5 c6
  · simp only [Option.some.injEq] at h
    subst h
    exact tollwaylaw03_MoneyRatios_2 x_0 r1 h2 r3 h4 c5
end Go.Proofs.YteljonodbkkckaaDoor.Av
