import Derived.Test.YteljonodbkkckaaAvX
import Derived.Test.YteljonodbkkckaaProg
import Derived.Tactics
import Derived.Test.YteljonodbkkckaaAwk
import Derived.Test.YteljonodbkkckaaNoF
import Derived.Test.YteljonodbkkckaaD0
import Derived.Test.YteljonodbkkckaaDA
import Derived.Test.YteljonodbkkckaaD1
import Derived.Test.YteljonodbkkckaaD2
import Derived.Test.YteljonodbkkckaaD3
set_option linter.unusedVariables false
set_option linter.unusedSimpArgs false
set_option maxHeartbeats 4000000
namespace Go.Proofs.Yteljonodbkkckaa.Av
open Go Go.Proofs
noncomputable def tollwaylaw24_DiscountApplies (d_0 : Tapi_Discount) (x_1 : Tapi_Trip) (earlier_2 : Int) : Option Bool :=
  (tollwaylaw24_short d_0).bind fun r1 =>
  if r1 = true then
    if (↑x_1.Stops.length : Int) > (20 : Int) then
      (awakeF).bind fun r5 =>
      some r5
    else
      if (↑x_1.System.length : Int) > (40 : Int) then
        (awakeF).bind fun r8 =>
        some r8
      else
        (discount_Applies d_0 x_1 earlier_2).bind fun r10 =>
        (tollwayref24_Applies d_0 x_1 earlier_2).bind fun r12 =>
        if r10 = r12 then
          (awakeF).bind fun r15 =>
          some r15
        else
          some false
  else
    (awakeF).bind fun r17 =>
    some r17
theorem tollwaylaw24_DiscountApplies_0 (d_0 : Tapi_Discount) (x_1 : Tapi_Trip) (earlier_2 : Int) (r1 : Bool) (h2 : tollwaylaw24_short d_0 = some r1) (c3 : r1 = true) (c4 : (↑x_1.Stops.length : Int) > (20 : Int)) (r5 : Bool) (h6 : awakeF = some r5) : Ret Try.prog G0 6 [.agg (Tapi_Discount.enc d_0), .agg (Tapi_Trip.enc x_1), .int .i64 earlier_2] (.bool r5) [] :=
  Ret.of_view 400 (cs 4 ((.ret none [.agg (Tapi_Discount.enc d_0)] (.bool r1) []) :: (cs 2 ((.op (some false) .c) :: (cs 2 ((.op none .a) :: (cs 2 ((.op (some true) .c) :: (cs 4 [.br true, .ret none [] (.bool r5) [], .op none .c]))))))))) [] (ps := [((.agg (Tapi_Discount.enc d_0) : AV) = .agg (Tapi_Discount.enc d_0)), (Ret Try.prog G0 17 [.agg (Tapi_Discount.enc d_0)] (.bool r1) []), ((!r1) = false), ((decide ((↑x_1.Stops.length : Int) > (20 : Int))) = true), (true = true), (Ret Try.prog G0 18 [] (.bool r5) [])]) (by kernel_rfl) (by kernel_rfl) ⟨rfl, (tollwaylaw24_short_ret d_0 r1 h2), (not_f c3), (decide_eq_true c4), rfl, ok1 (awake24_ret r5 h6)⟩
theorem tollwaylaw24_DiscountApplies_1 (d_0 : Tapi_Discount) (x_1 : Tapi_Trip) (earlier_2 : Int) (r1 : Bool) (h2 : tollwaylaw24_short d_0 = some r1) (c3 : r1 = true) (c4 : ¬ ((↑x_1.Stops.length : Int) > (20 : Int))) (c7 : (↑x_1.System.length : Int) > (40 : Int)) (r8 : Bool) (h9 : awakeF = some r8) : Ret Try.prog G0 6 [.agg (Tapi_Discount.enc d_0), .agg (Tapi_Trip.enc x_1), .int .i64 earlier_2] (.bool r8) [] :=
  Ret.of_view 400 (cs 4 ((.ret none [.agg (Tapi_Discount.enc d_0)] (.bool r1) []) :: (cs 2 ((.op (some false) .c) :: (cs 2 ((.op none .a) :: (cs 2 ((.op (some false) .c) :: (cs 2 [.op none .a, .op none .c, .br true, .ret none [] (.bool r8) [], .op none .c]))))))))) [] (ps := [((.agg (Tapi_Discount.enc d_0) : AV) = .agg (Tapi_Discount.enc d_0)), (Ret Try.prog G0 17 [.agg (Tapi_Discount.enc d_0)] (.bool r1) []), ((!r1) = false), ((decide ((↑x_1.Stops.length : Int) > (20 : Int))) = false), ((decide ((↑x_1.System.length : Int) > (40 : Int))) = true), (Ret Try.prog G0 18 [] (.bool r8) [])]) (by kernel_rfl) (by kernel_rfl) ⟨rfl, (tollwaylaw24_short_ret d_0 r1 h2), (not_f c3), (decide_eq_false c4), (decide_eq_true c7), ok1 (awake24_ret r8 h9)⟩
theorem tollwaylaw24_DiscountApplies_2 (d_0 : Tapi_Discount) (x_1 : Tapi_Trip) (earlier_2 : Int) (r1 : Bool) (h2 : tollwaylaw24_short d_0 = some r1) (c3 : r1 = true) (c4 : ¬ ((↑x_1.Stops.length : Int) > (20 : Int))) (c7 : ¬ ((↑x_1.System.length : Int) > (40 : Int))) (r10 : Bool) (h11 : discount_Applies d_0 x_1 earlier_2 = some r10) (r12 : Bool) (h13 : tollwayref24_Applies d_0 x_1 earlier_2 = some r12) (c14 : r10 = r12) (r15 : Bool) (h16 : awakeF = some r15) : Ret Try.prog G0 6 [.agg (Tapi_Discount.enc d_0), .agg (Tapi_Trip.enc x_1), .int .i64 earlier_2] (.bool r15) [] :=
  Ret.of_view 400 (cs 4 ((.ret none [.agg (Tapi_Discount.enc d_0)] (.bool r1) []) :: (cs 2 ((.op (some false) .c) :: (cs 2 ((.op none .a) :: (cs 2 ((.op (some false) .c) :: (cs 2 ((.op none .a) :: (.op none .c) :: (.br false) :: (cs 3 ((.ret none [.agg (Tapi_Discount.enc d_0), .agg (Tapi_Trip.enc x_1), .int .i64 earlier_2] (.bool r10) []) :: (cs 3 ((.ret none [.agg (Tapi_Discount.enc d_0), .agg (Tapi_Trip.enc x_1), .int .i64 earlier_2] (.bool r12) []) :: (cs 2 [.ret (some true) [] (.bool r15) [], .op none (.b true), .op none .c]))))))))))))))) [] (ps := [((.agg (Tapi_Discount.enc d_0) : AV) = .agg (Tapi_Discount.enc d_0)), (Ret Try.prog G0 17 [.agg (Tapi_Discount.enc d_0)] (.bool r1) []), ((!r1) = false), ((decide ((↑x_1.Stops.length : Int) > (20 : Int))) = false), ((decide ((↑x_1.System.length : Int) > (40 : Int))) = false), ((.agg (Tapi_Discount.enc d_0) : AV) = .agg (Tapi_Discount.enc d_0)), ((.agg (Tapi_Trip.enc x_1) : AV) = .agg (Tapi_Trip.enc x_1)), ((.int .i64 earlier_2 : AV) = .int .i64 earlier_2), (Ret Try.prog G0 26 [.agg (Tapi_Discount.enc d_0), .agg (Tapi_Trip.enc x_1), .int .i64 earlier_2] (.bool r10) []), ((.agg (Tapi_Discount.enc d_0) : AV) = .agg (Tapi_Discount.enc d_0)), ((.agg (Tapi_Trip.enc x_1) : AV) = .agg (Tapi_Trip.enc x_1)), ((.int .i64 earlier_2 : AV) = .int .i64 earlier_2), (Ret Try.prog G0 27 [.agg (Tapi_Discount.enc d_0), .agg (Tapi_Trip.enc x_1), .int .i64 earlier_2] (.bool r12) []), ((r10 == r12) = true), (Ret Try.prog G0 18 [] (.bool r15) []), ((r10 == r12) = true)]) (by kernel_rfl) (by kernel_rfl) ⟨rfl, (tollwaylaw24_short_ret d_0 r1 h2), (not_f c3), (decide_eq_false c4), (decide_eq_false c7), rfl, rfl, rfl, (discount_Applies_ret d_0 x_1 earlier_2 r10 h11), rfl, rfl, rfl, (tollwayref24_Applies_ret d_0 x_1 earlier_2 r12 h13), (beq_t c14), (awake24_ret r15 h16), ok1 (beq_t c14)⟩
theorem tollwaylaw24_DiscountApplies_3 (d_0 : Tapi_Discount) (x_1 : Tapi_Trip) (earlier_2 : Int) (r1 : Bool) (h2 : tollwaylaw24_short d_0 = some r1) (c3 : r1 = true) (c4 : ¬ ((↑x_1.Stops.length : Int) > (20 : Int))) (c7 : ¬ ((↑x_1.System.length : Int) > (40 : Int))) (r10 : Bool) (h11 : discount_Applies d_0 x_1 earlier_2 = some r10) (r12 : Bool) (h13 : tollwayref24_Applies d_0 x_1 earlier_2 = some r12) (c14 : ¬ (r10 = r12)) : Ret Try.prog G0 6 [.agg (Tapi_Discount.enc d_0), .agg (Tapi_Trip.enc x_1), .int .i64 earlier_2] (.bool false) [] :=
  Ret.of_view 400 (cs 4 ((.ret none [.agg (Tapi_Discount.enc d_0)] (.bool r1) []) :: (cs 2 ((.op (some false) .c) :: (cs 2 ((.op none .a) :: (cs 2 ((.op (some false) .c) :: (cs 2 ((.op none .a) :: (.op none .c) :: (.br false) :: (cs 3 ((.ret none [.agg (Tapi_Discount.enc d_0), .agg (Tapi_Trip.enc x_1), .int .i64 earlier_2] (.bool r10) []) :: (cs 3 ((.ret none [.agg (Tapi_Discount.enc d_0), .agg (Tapi_Trip.enc x_1), .int .i64 earlier_2] (.bool r12) []) :: (cs 2 [.op (some false) .c, .op none (.b false), .op none .c]))))))))))))))) [] (ps := [((.agg (Tapi_Discount.enc d_0) : AV) = .agg (Tapi_Discount.enc d_0)), (Ret Try.prog G0 17 [.agg (Tapi_Discount.enc d_0)] (.bool r1) []), ((!r1) = false), ((decide ((↑x_1.Stops.length : Int) > (20 : Int))) = false), ((decide ((↑x_1.System.length : Int) > (40 : Int))) = false), ((.agg (Tapi_Discount.enc d_0) : AV) = .agg (Tapi_Discount.enc d_0)), ((.agg (Tapi_Trip.enc x_1) : AV) = .agg (Tapi_Trip.enc x_1)), ((.int .i64 earlier_2 : AV) = .int .i64 earlier_2), (Ret Try.prog G0 26 [.agg (Tapi_Discount.enc d_0), .agg (Tapi_Trip.enc x_1), .int .i64 earlier_2] (.bool r10) []), ((.agg (Tapi_Discount.enc d_0) : AV) = .agg (Tapi_Discount.enc d_0)), ((.agg (Tapi_Trip.enc x_1) : AV) = .agg (Tapi_Trip.enc x_1)), ((.int .i64 earlier_2 : AV) = .int .i64 earlier_2), (Ret Try.prog G0 27 [.agg (Tapi_Discount.enc d_0), .agg (Tapi_Trip.enc x_1), .int .i64 earlier_2] (.bool r12) []), ((r10 == r12) = false), ((r10 == r12) = false)]) (by kernel_rfl) (by kernel_rfl) ⟨rfl, (tollwaylaw24_short_ret d_0 r1 h2), (not_f c3), (decide_eq_false c4), (decide_eq_false c7), rfl, rfl, rfl, (discount_Applies_ret d_0 x_1 earlier_2 r10 h11), rfl, rfl, rfl, (tollwayref24_Applies_ret d_0 x_1 earlier_2 r12 h13), (beq_f c14), ok1 (beq_f c14)⟩
theorem tollwaylaw24_DiscountApplies_4 (d_0 : Tapi_Discount) (x_1 : Tapi_Trip) (earlier_2 : Int) (r1 : Bool) (h2 : tollwaylaw24_short d_0 = some r1) (c3 : ¬ (r1 = true)) (r17 : Bool) (h18 : awakeF = some r17) : Ret Try.prog G0 6 [.agg (Tapi_Discount.enc d_0), .agg (Tapi_Trip.enc x_1), .int .i64 earlier_2] (.bool r17) [] :=
  Ret.of_view 400 (cs 4 ((.ret none [.agg (Tapi_Discount.enc d_0)] (.bool r1) []) :: (cs 2 ((.op (some true) .c) :: (cs 10 [.br true, .ret none [] (.bool r17) [], .op none .c]))))) [] (ps := [((.agg (Tapi_Discount.enc d_0) : AV) = .agg (Tapi_Discount.enc d_0)), (Ret Try.prog G0 17 [.agg (Tapi_Discount.enc d_0)] (.bool r1) []), ((!r1) = true), (true = true), (Ret Try.prog G0 18 [] (.bool r17) [])]) (by kernel_rfl) (by kernel_rfl) ⟨rfl, (tollwaylaw24_short_ret d_0 r1 h2), (not_t (eq_false_of_ne_true c3)), rfl, ok1 (awake24_ret r17 h18)⟩
theorem tollwaylaw24_DiscountApplies_ret (d_0 : Tapi_Discount) (x_1 : Tapi_Trip) (earlier_2 : Int) (r : Bool) (h : tollwaylaw24_DiscountApplies d_0 x_1 earlier_2 = some r) : Ret Try.prog G0 6 [.agg (Tapi_Discount.enc d_0), .agg (Tapi_Trip.enc x_1), .int .i64 earlier_2] (.bool r) [] := by
  unfold tollwaylaw24_DiscountApplies at h
  obtain ⟨r1, h2, h⟩ := bind_some h
  rcases ite_some h with ⟨c3, h⟩ | ⟨c3, h⟩
  · rcases ite_some h with ⟨c4, h⟩ | ⟨c4, h⟩
    · obtain ⟨r5, h6, h⟩ := bind_some h
      simp only [Option.some.injEq] at h
      subst h
      exact tollwaylaw24_DiscountApplies_0 d_0 x_1 earlier_2 r1 h2 c3 c4 r5 h6
    · rcases ite_some h with ⟨c7, h⟩ | ⟨c7, h⟩
      · obtain ⟨r8, h9, h⟩ := bind_some h
        simp only [Option.some.injEq] at h
        subst h
        exact tollwaylaw24_DiscountApplies_1 d_0 x_1 earlier_2 r1 h2 c3 c4 c7 r8 h9
      · obtain ⟨r10, h11, h⟩ := bind_some h
        obtain ⟨r12, h13, h⟩ := bind_some h
        rcases ite_some h with ⟨c14, h⟩ | ⟨c14, h⟩
        · obtain ⟨r15, h16, h⟩ := bind_some h
          simp only [Option.some.injEq] at h
          subst h
          exact tollwaylaw24_DiscountApplies_2 d_0 x_1 earlier_2 r1 h2 c3 c4 c7 r10 h11 r12 h13 c14 r15 h16
        · simp only [Option.some.injEq] at h
          subst h
          exact tollwaylaw24_DiscountApplies_3 d_0 x_1 earlier_2 r1 h2 c3 c4 c7 r10 h11 r12 h13 c14
  · obtain ⟨r17, h18, h⟩ := bind_some h
    simp only [Option.some.injEq] at h
    subst h
    exact tollwaylaw24_DiscountApplies_4 d_0 x_1 earlier_2 r1 h2 c3 r17 h18
end Go.Proofs.Yteljonodbkkckaa.Av
