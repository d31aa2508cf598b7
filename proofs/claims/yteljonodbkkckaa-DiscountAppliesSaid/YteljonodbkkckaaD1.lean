import Derived.Test.YteljonodbkkckaaAvX
import Derived.Test.YteljonodbkkckaaProg
import Derived.Tactics
import Derived.Test.YteljonodbkkckaaAwk
import Derived.Test.YteljonodbkkckaaNoF
import Derived.Test.YteljonodbkkckaaD0
import Derived.Test.YteljonodbkkckaaDA
set_option linter.unusedVariables false
set_option linter.unusedSimpArgs false
set_option maxHeartbeats 4000000
namespace Go.Proofs.Yteljonodbkkckaa.Av
open Go Go.Proofs
noncomputable def tollwaylaw24_DiscountChecks (d_0 : Tapi_Discount) (cents_1 : Int) : Option Bool :=
  (tollwaylaw24_short d_0).bind fun r1 =>
  if r1 = true then
    (discount_Check d_0).bind fun r4 =>
    (tollwayref24_Check d_0).bind fun r6 =>
    if r4 = r6 then
      (discount_Amount d_0 cents_1).bind fun r9 =>
      (tollwayref24_Amount d_0 cents_1).bind fun r11 =>
      if r9 = r11 then
        (awakeF).bind fun r14 =>
        some r14
      else
        some false
    else
      some false
  else
    (awakeF).bind fun r16 =>
    some r16
theorem tollwaylaw24_DiscountChecks_0 (d_0 : Tapi_Discount) (cents_1 : Int) (r1 : Bool) (h2 : tollwaylaw24_short d_0 = some r1) (c3 : r1 = true) (r4 : Int) (h5 : discount_Check d_0 = some r4) (r6 : Int) (h7 : tollwayref24_Check d_0 = some r6) (c8 : r4 = r6) (r9 : Int) (h10 : discount_Amount d_0 cents_1 = some r9) (r11 : Int) (h12 : tollwayref24_Amount d_0 cents_1 = some r11) (c13 : r9 = r11) (r14 : Bool) (h15 : awakeF = some r14) : Ret Try.prog G0 4 [.agg (Tapi_Discount.enc d_0), .int .i64 cents_1] (.bool r14) [] :=
  Ret.of_view 400 (cs 3 [.ret none [.agg (Tapi_Discount.enc d_0)] (.bool r1) [], .op none .c, .br false, .op none .c, .ret none [.agg (Tapi_Discount.enc d_0)] (.int .i64 r4) [], .op none .c, .ret none [.agg (Tapi_Discount.enc d_0)] (.int .i64 r6) [], .op none .a, .op none .c, .op (some true) .c, .op (some true) .c, .ret (some true) [.agg (Tapi_Discount.enc d_0), .int .i64 cents_1] (.int .i64 r9) [], .op (some true) .c, .op (some true) .c, .ret (some true) [.agg (Tapi_Discount.enc d_0), .int .i64 cents_1] (.int .i64 r11) [], .op (some true) .a, .op none (.b true), .op none .c, .ret (some true) [] (.bool r14) [], .op none (.b true), .op none .c]) [] (ps := [((.agg (Tapi_Discount.enc d_0) : AV) = .agg (Tapi_Discount.enc d_0)), (Ret Try.prog G0 17 [.agg (Tapi_Discount.enc d_0)] (.bool r1) []), ((!r1) = false), ((.agg (Tapi_Discount.enc d_0) : AV) = .agg (Tapi_Discount.enc d_0)), (Ret Try.prog G0 19 [.agg (Tapi_Discount.enc d_0)] (.int .i64 r4) []), ((.agg (Tapi_Discount.enc d_0) : AV) = .agg (Tapi_Discount.enc d_0)), (Ret Try.prog G0 20 [.agg (Tapi_Discount.enc d_0)] (.int .i64 r6) []), ((r4 == r6) = true), ((r4 == r6) = true), ((r4 == r6) = true), ((.agg (Tapi_Discount.enc d_0) : AV) = .agg (Tapi_Discount.enc d_0)), ((.int .i64 cents_1 : AV) = .int .i64 cents_1), (Ret Try.prog G0 21 [.agg (Tapi_Discount.enc d_0), .int .i64 cents_1] (.int .i64 r9) []), ((r4 == r6) = true), ((r4 == r6) = true), ((r4 == r6) = true), ((.agg (Tapi_Discount.enc d_0) : AV) = .agg (Tapi_Discount.enc d_0)), ((.int .i64 cents_1 : AV) = .int .i64 cents_1), (Ret Try.prog G0 22 [.agg (Tapi_Discount.enc d_0), .int .i64 cents_1] (.int .i64 r11) []), ((r4 == r6) = true), ((r4 == r6) = true), ((r9 == r11) = true), (Ret Try.prog G0 18 [] (.bool r14) []), ((r9 == r11) = true)]) (by kernel_rfl) (by kernel_rfl) ⟨rfl, (tollwaylaw24_short_ret d_0 r1 h2), (not_f c3), rfl, (discount_Check_ret d_0 r4 h5), rfl, (tollwayref24_Check_ret d_0 r6 h7), (beq_t c8), (beq_t c8), (beq_t c8), rfl, rfl, (discount_Amount_ret d_0 cents_1 r9 h10), (beq_t c8), (beq_t c8), (beq_t c8), rfl, rfl, (tollwayref24_Amount_ret d_0 cents_1 r11 h12), (beq_t c8), (beq_t c8), (beq_t c13), (awake24_ret r14 h15), ok1 (beq_t c13)⟩
theorem tollwaylaw24_DiscountChecks_1 (d_0 : Tapi_Discount) (cents_1 : Int) (r1 : Bool) (h2 : tollwaylaw24_short d_0 = some r1) (c3 : r1 = true) (r4 : Int) (h5 : discount_Check d_0 = some r4) (r6 : Int) (h7 : tollwayref24_Check d_0 = some r6) (c8 : r4 = r6) (r9 : Int) (h10 : discount_Amount d_0 cents_1 = some r9) (r11 : Int) (h12 : tollwayref24_Amount d_0 cents_1 = some r11) (c13 : ¬ (r9 = r11)) : Ret Try.prog G0 4 [.agg (Tapi_Discount.enc d_0), .int .i64 cents_1] (.bool false) [] :=
  Ret.of_view 400 (cs 3 [.ret none [.agg (Tapi_Discount.enc d_0)] (.bool r1) [], .op none .c, .br false, .op none .c, .ret none [.agg (Tapi_Discount.enc d_0)] (.int .i64 r4) [], .op none .c, .ret none [.agg (Tapi_Discount.enc d_0)] (.int .i64 r6) [], .op none .a, .op none .c, .op (some true) .c, .op (some true) .c, .ret (some true) [.agg (Tapi_Discount.enc d_0), .int .i64 cents_1] (.int .i64 r9) [], .op (some true) .c, .op (some true) .c, .ret (some true) [.agg (Tapi_Discount.enc d_0), .int .i64 cents_1] (.int .i64 r11) [], .op (some true) .a, .op none (.b true), .op none .c, .op (some false) .c, .op none (.b false), .op none .c]) [] (ps := [((.agg (Tapi_Discount.enc d_0) : AV) = .agg (Tapi_Discount.enc d_0)), (Ret Try.prog G0 17 [.agg (Tapi_Discount.enc d_0)] (.bool r1) []), ((!r1) = false), ((.agg (Tapi_Discount.enc d_0) : AV) = .agg (Tapi_Discount.enc d_0)), (Ret Try.prog G0 19 [.agg (Tapi_Discount.enc d_0)] (.int .i64 r4) []), ((.agg (Tapi_Discount.enc d_0) : AV) = .agg (Tapi_Discount.enc d_0)), (Ret Try.prog G0 20 [.agg (Tapi_Discount.enc d_0)] (.int .i64 r6) []), ((r4 == r6) = true), ((r4 == r6) = true), ((r4 == r6) = true), ((.agg (Tapi_Discount.enc d_0) : AV) = .agg (Tapi_Discount.enc d_0)), ((.int .i64 cents_1 : AV) = .int .i64 cents_1), (Ret Try.prog G0 21 [.agg (Tapi_Discount.enc d_0), .int .i64 cents_1] (.int .i64 r9) []), ((r4 == r6) = true), ((r4 == r6) = true), ((r4 == r6) = true), ((.agg (Tapi_Discount.enc d_0) : AV) = .agg (Tapi_Discount.enc d_0)), ((.int .i64 cents_1 : AV) = .int .i64 cents_1), (Ret Try.prog G0 22 [.agg (Tapi_Discount.enc d_0), .int .i64 cents_1] (.int .i64 r11) []), ((r4 == r6) = true), ((r4 == r6) = true), ((r9 == r11) = false), ((r9 == r11) = false)]) (by kernel_rfl) (by kernel_rfl) ⟨rfl, (tollwaylaw24_short_ret d_0 r1 h2), (not_f c3), rfl, (discount_Check_ret d_0 r4 h5), rfl, (tollwayref24_Check_ret d_0 r6 h7), (beq_t c8), (beq_t c8), (beq_t c8), rfl, rfl, (discount_Amount_ret d_0 cents_1 r9 h10), (beq_t c8), (beq_t c8), (beq_t c8), rfl, rfl, (tollwayref24_Amount_ret d_0 cents_1 r11 h12), (beq_t c8), (beq_t c8), (beq_f c13), ok1 (beq_f c13)⟩
theorem tollwaylaw24_DiscountChecks_2 (d_0 : Tapi_Discount) (cents_1 : Int) (r1 : Bool) (h2 : tollwaylaw24_short d_0 = some r1) (c3 : r1 = true) (r4 : Int) (h5 : discount_Check d_0 = some r4) (r6 : Int) (h7 : tollwayref24_Check d_0 = some r6) (c8 : ¬ (r4 = r6)) : Ret Try.prog G0 4 [.agg (Tapi_Discount.enc d_0), .int .i64 cents_1] (.bool false) [] :=
  Ret.of_view 400 (cs 3 ((.ret none [.agg (Tapi_Discount.enc d_0)] (.bool r1) []) :: (.op none .c) :: (.br false) :: (.op none .c) :: (.ret none [.agg (Tapi_Discount.enc d_0)] (.int .i64 r4) []) :: (.op none .c) :: (.ret none [.agg (Tapi_Discount.enc d_0)] (.int .i64 r6) []) :: (.op none .a) :: (.op none .c) :: (.op (some false) .c) :: (.op (some false) .c) :: (.op (some false) .c) :: (.op (some false) .c) :: (.op (some false) .c) :: (.op (some false) .c) :: (.op (some false) .c) :: (.op none (.b false)) :: (cs 4 []))) [] (ps := [((.agg (Tapi_Discount.enc d_0) : AV) = .agg (Tapi_Discount.enc d_0)), (Ret Try.prog G0 17 [.agg (Tapi_Discount.enc d_0)] (.bool r1) []), ((!r1) = false), ((.agg (Tapi_Discount.enc d_0) : AV) = .agg (Tapi_Discount.enc d_0)), (Ret Try.prog G0 19 [.agg (Tapi_Discount.enc d_0)] (.int .i64 r4) []), ((.agg (Tapi_Discount.enc d_0) : AV) = .agg (Tapi_Discount.enc d_0)), (Ret Try.prog G0 20 [.agg (Tapi_Discount.enc d_0)] (.int .i64 r6) []), ((r4 == r6) = false), ((r4 == r6) = false), ((r4 == r6) = false), ((r4 == r6) = false), ((r4 == r6) = false), ((r4 == r6) = false), ((r4 == r6) = false), ((r4 == r6) = false)]) (by kernel_rfl) (by kernel_rfl) ⟨rfl, (tollwaylaw24_short_ret d_0 r1 h2), (not_f c3), rfl, (discount_Check_ret d_0 r4 h5), rfl, (tollwayref24_Check_ret d_0 r6 h7), (beq_f c8), (beq_f c8), (beq_f c8), (beq_f c8), (beq_f c8), (beq_f c8), (beq_f c8), ok1 (beq_f c8)⟩
theorem tollwaylaw24_DiscountChecks_3 (d_0 : Tapi_Discount) (cents_1 : Int) (r1 : Bool) (h2 : tollwaylaw24_short d_0 = some r1) (c3 : ¬ (r1 = true)) (r16 : Bool) (h17 : awakeF = some r16) : Ret Try.prog G0 4 [.agg (Tapi_Discount.enc d_0), .int .i64 cents_1] (.bool r16) [] :=
  Ret.of_view 400 (cs 3 [.ret none [.agg (Tapi_Discount.enc d_0)] (.bool r1) [], .op none .c, .br true, .ret none [] (.bool r16) [], .op none .c]) [] (ps := [((.agg (Tapi_Discount.enc d_0) : AV) = .agg (Tapi_Discount.enc d_0)), (Ret Try.prog G0 17 [.agg (Tapi_Discount.enc d_0)] (.bool r1) []), ((!r1) = true), (Ret Try.prog G0 18 [] (.bool r16) [])]) (by kernel_rfl) (by kernel_rfl) ⟨rfl, (tollwaylaw24_short_ret d_0 r1 h2), (not_t (eq_false_of_ne_true c3)), ok1 (awake24_ret r16 h17)⟩
theorem tollwaylaw24_DiscountChecks_ret (d_0 : Tapi_Discount) (cents_1 : Int) (r : Bool) (h : tollwaylaw24_DiscountChecks d_0 cents_1 = some r) : Ret Try.prog G0 4 [.agg (Tapi_Discount.enc d_0), .int .i64 cents_1] (.bool r) [] := by
  unfold tollwaylaw24_DiscountChecks at h
  obtain ⟨r1, h2, h⟩ := bind_some h
  rcases ite_some h with ⟨c3, h⟩ | ⟨c3, h⟩
  · obtain ⟨r4, h5, h⟩ := bind_some h
    obtain ⟨r6, h7, h⟩ := bind_some h
    rcases ite_some h with ⟨c8, h⟩ | ⟨c8, h⟩
    · obtain ⟨r9, h10, h⟩ := bind_some h
      obtain ⟨r11, h12, h⟩ := bind_some h
      rcases ite_some h with ⟨c13, h⟩ | ⟨c13, h⟩
      · obtain ⟨r14, h15, h⟩ := bind_some h
        simp only [Option.some.injEq] at h
        subst h
        exact tollwaylaw24_DiscountChecks_0 d_0 cents_1 r1 h2 c3 r4 h5 r6 h7 c8 r9 h10 r11 h12 c13 r14 h15
      · simp only [Option.some.injEq] at h
        subst h
        exact tollwaylaw24_DiscountChecks_1 d_0 cents_1 r1 h2 c3 r4 h5 r6 h7 c8 r9 h10 r11 h12 c13
    · simp only [Option.some.injEq] at h
      subst h
      exact tollwaylaw24_DiscountChecks_2 d_0 cents_1 r1 h2 c3 r4 h5 r6 h7 c8
  · obtain ⟨r16, h17, h⟩ := bind_some h
    simp only [Option.some.injEq] at h
    subst h
    exact tollwaylaw24_DiscountChecks_3 d_0 cents_1 r1 h2 c3 r16 h17
end Go.Proofs.Yteljonodbkkckaa.Av
