import Derived.Test.YtabjlmlfmafllaaAvX
import Derived.Test.YtabjlmlfmafllaaProg
import Derived.Tactics
import Derived.Test.YtabjlmlfmafllaaK2
set_option linter.unusedVariables false
set_option linter.unusedSimpArgs false
set_option maxHeartbeats 4000000
namespace Go.Proofs.Ytabjlmlfmafllaa.Av
open Go Go.Proofs
noncomputable def tollwaylaw24_DiscountBest (l_0 : (List Tapi_Discount)) (cents_1 : Int) : Option Bool :=
  (tollwaylaw24_few l_0).bind fun r1 =>
  if r1 = true then
    (discount_Best l_0 cents_1).bind fun r4 =>
    (tollwayref24_Best l_0 cents_1).bind fun r6 =>
    if r4.2.2 = r6.2.2 then
      if r4.2.1 = r6.2.1 then
        (tollwayref20_SameNumbers r4.1 r6.1).bind fun r10 =>
        if r10 = true then
          (discount_Lines l_0 cents_1).bind fun r13 =>
          (tollwayref24_Lines l_0 cents_1).bind fun r15 =>
          (tollwayref24_SameLines r13 r15).bind fun r17 =>
          if r17 = true then
            (awakeF).bind fun r20 =>
            some r20
          else
            some false
        else
          some false
      else
        some false
    else
      some false
  else
    (awakeF).bind fun r22 =>
    some r22
def tollwaylaw24_DiscountBest_h1 (l_0 : (List Tapi_Discount)) (r1 : Bool) : List CH := (cs 2 [.ret none [.lst (fl Tapi_Discount.enc l_0) l_0.length] (.bool r1) [], .op none .c])
def tollwaylaw24_DiscountBest_h2 (l_0 : (List Tapi_Discount)) (cents_1 : Int) (r4 : ((List Int) × Int × Int)) (r6 : ((List Int) × Int × Int)) : List CH := ((.br false) :: (cs 2 ((.ret none [.lst (fl Tapi_Discount.enc l_0) l_0.length, .int .i64 cents_1] (.tup [.vec 0 r4.1.length 1, .int .i64 r4.2.1, .int .i64 r4.2.2]) [(bV (fl e_i64 r4.1) 3)]) :: (cs 9 ((.ret none [.lst (fl Tapi_Discount.enc l_0) l_0.length, .int .i64 cents_1] (.tup [.lst (fl e_i64 r6.1) r6.1.length, .int .i64 r6.2.1, .int .i64 r6.2.2]) []) :: (cs 9 [.op none .a, .op none .c]))))))
def tollwaylaw24_DiscountBest_h3  : List CH := ((.op (some true) .c) :: (.op none .c) :: (.op none .a) :: (cs 2 []))
def tollwaylaw24_DiscountBest_h4 (r4 : ((List Int) × Int × Int)) (r6 : ((List Int) × Int × Int)) (r10 : Bool) : List CH := ((.op (some true) .c) :: (.op none .c) :: (.ret none [.lst (fl e_i64 r4.1) r4.1.length, .lst (fl e_i64 r6.1) r6.1.length] (.bool r10) []) :: (cs 2 []))
def tollwaylaw24_DiscountBest_h5 (l_0 : (List Tapi_Discount)) (cents_1 : Int) (r13 : (List Tapi_Line)) (r15 : (List Tapi_Line)) (r17 : Bool) : List CH := ((.op (some true) .c) :: (.op none .c) :: (.ret none [.lst (fl Tapi_Discount.enc l_0) l_0.length, .int .i64 cents_1] (.vec 0 r13.length 2) [(bV (fl Tapi_Line.enc r13) 37)]) :: (cs 2 ((.ret none [.lst (fl Tapi_Discount.enc l_0) l_0.length, .int .i64 cents_1] (.vec 0 r15.length 2) [(bV (fl Tapi_Line.enc r15) 37)]) :: (.ret none [.lst (fl Tapi_Line.enc r13) r13.length, .lst (fl Tapi_Line.enc r15) r15.length] (.bool r17) []) :: (cs 2 []))))
def tollwaylaw24_DiscountBest_p6 (l_0 : (List Tapi_Discount)) (cents_1 : Int) (r1 : Bool) (r4 : ((List Int) × Int × Int)) (r6 : ((List Int) × Int × Int)) : List Prop := [((!r1) = false), ((.lst (fl Tapi_Discount.enc l_0) l_0.length : AV) = .lst (fl Tapi_Discount.enc l_0) l_0.length), ((.int .i64 cents_1 : AV) = .int .i64 cents_1), (Ret Try.prog G0 10 [.lst (fl Tapi_Discount.enc l_0) l_0.length, .int .i64 cents_1] (.tup [.vec 0 r4.1.length 1, .int .i64 r4.2.1, .int .i64 r4.2.2]) [(bV (fl e_i64 r4.1) 3)]), ((.lst (fl Tapi_Discount.enc l_0) l_0.length : AV) = .lst (fl Tapi_Discount.enc l_0) l_0.length), ((.int .i64 cents_1 : AV) = .int .i64 cents_1), (Ret Try.prog G0 11 [.lst (fl Tapi_Discount.enc l_0) l_0.length, .int .i64 cents_1] (.tup [.lst (fl e_i64 r6.1) r6.1.length, .int .i64 r6.2.1, .int .i64 r6.2.2]) [])]
theorem tollwaylaw24_DiscountBest_p6q (l_0 : (List Tapi_Discount)) (cents_1 : Int) (r1 : Bool) (c3 : r1 = true) (r4 : ((List Int) × Int × Int)) (h5 : discount_Best l_0 cents_1 = some r4) (r6 : ((List Int) × Int × Int)) (h7 : tollwayref24_Best l_0 cents_1 = some r6) : allOk (tollwaylaw24_DiscountBest_p6 l_0 cents_1 r1 r4 r6) := ⟨(not_f c3), rfl, rfl, (discount_Best_ret l_0 cents_1 r4 h5), rfl, rfl, ok1 (tollwayref24_Best_ret l_0 cents_1 r6 h7)⟩
def tollwaylaw24_DiscountBest_p7 (r4 : ((List Int) × Int × Int)) (r6 : ((List Int) × Int × Int)) (r10 : Bool) : List Prop := [((r4.2.1 == r6.2.1) = true), ((fl e_i64 r4.1) = (fl e_i64 r4.1) ∧ r4.1.length = r4.1.length ∧ List.length ((fl e_i64 r4.1) : List AV) = r4.1.length), ((.lst (fl e_i64 r6.1) r6.1.length : AV) = .lst (fl e_i64 r6.1) r6.1.length), (datBlks []), (Ret Try.prog G0 12 [.lst (fl e_i64 r4.1) r4.1.length, .lst (fl e_i64 r6.1) r6.1.length] (.bool r10) [])]
theorem tollwaylaw24_DiscountBest_p7q (r4 : ((List Int) × Int × Int)) (r6 : ((List Int) × Int × Int)) (c9 : r4.2.1 = r6.2.1) (r10 : Bool) (h11 : tollwayref20_SameNumbers r4.1 r6.1 = some r10) : allOk (tollwaylaw24_DiscountBest_p7 r4 r6 r10) := ⟨(beq_t c9), ⟨rfl, rfl, (fl_length1 (f := e_i64) (fun _ => rfl) _)⟩, rfl, trivial, ok1 (tollwayref20_SameNumbers_ret r4.1 r6.1 r10 h11)⟩
def tollwaylaw24_DiscountBest_p8 (l_0 : (List Tapi_Discount)) (cents_1 : Int) (r10 : Bool) (r13 : (List Tapi_Line)) (r15 : (List Tapi_Line)) (r17 : Bool) : List Prop := [(r10 = true), ((.lst (fl Tapi_Discount.enc l_0) l_0.length : AV) = .lst (fl Tapi_Discount.enc l_0) l_0.length), ((.int .i64 cents_1 : AV) = .int .i64 cents_1), (Ret Try.prog G0 14 [.lst (fl Tapi_Discount.enc l_0) l_0.length, .int .i64 cents_1] (.vec 0 r13.length 2) [(bV (fl Tapi_Line.enc r13) 37)]), ((.lst (fl Tapi_Discount.enc l_0) l_0.length : AV) = .lst (fl Tapi_Discount.enc l_0) l_0.length), ((.int .i64 cents_1 : AV) = .int .i64 cents_1), (Ret Try.prog G0 15 [.lst (fl Tapi_Discount.enc l_0) l_0.length, .int .i64 cents_1] (.vec 0 r15.length 2) [(bV (fl Tapi_Line.enc r15) 37)]), ((fl Tapi_Line.enc r13) = (fl Tapi_Line.enc r13) ∧ r13.length = r13.length ∧ List.length ((fl Tapi_Line.enc r13) : List AV) = (r13.length * 2)), ((fl Tapi_Line.enc r15) = (fl Tapi_Line.enc r15) ∧ r15.length = r15.length ∧ List.length ((fl Tapi_Line.enc r15) : List AV) = (r15.length * 2)), (datBlks []), (Ret Try.prog G0 13 [.lst (fl Tapi_Line.enc r13) r13.length, .lst (fl Tapi_Line.enc r15) r15.length] (.bool r17) [])]
theorem tollwaylaw24_DiscountBest_p8q (l_0 : (List Tapi_Discount)) (cents_1 : Int) (r10 : Bool) (c12 : r10 = true) (r13 : (List Tapi_Line)) (h14 : discount_Lines l_0 cents_1 = some r13) (r15 : (List Tapi_Line)) (h16 : tollwayref24_Lines l_0 cents_1 = some r15) (r17 : Bool) (h18 : tollwayref24_SameLines r13 r15 = some r17) : allOk (tollwaylaw24_DiscountBest_p8 l_0 cents_1 r10 r13 r15 r17) := ⟨c12, rfl, rfl, (discount_Lines_ret l_0 cents_1 r13 h14), rfl, rfl, (tollwayref24_Lines_ret l_0 cents_1 r15 h16), ⟨rfl, rfl, (fl_length (f := Tapi_Line.enc) (z := 2) (fun _ => rfl) _)⟩, ⟨rfl, rfl, (fl_length (f := Tapi_Line.enc) (z := 2) (fun _ => rfl) _)⟩, trivial, ok1 (tollwayref24_SameLines_ret r13 r15 r17 h18)⟩
theorem tollwaylaw24_DiscountBest_0 (l_0 : (List Tapi_Discount)) (cents_1 : Int) (r1 : Bool) (h2 : tollwaylaw24_few l_0 = some r1) (c3 : r1 = true) (r4 : ((List Int) × Int × Int)) (h5 : discount_Best l_0 cents_1 = some r4) (r6 : ((List Int) × Int × Int)) (h7 : tollwayref24_Best l_0 cents_1 = some r6) (c8 : r4.2.2 = r6.2.2) (c9 : r4.2.1 = r6.2.1) (r10 : Bool) (h11 : tollwayref20_SameNumbers r4.1 r6.1 = some r10) (c12 : r10 = true) (r13 : (List Tapi_Line)) (h14 : discount_Lines l_0 cents_1 = some r13) (r15 : (List Tapi_Line)) (h16 : tollwayref24_Lines l_0 cents_1 = some r15) (r17 : Bool) (h18 : tollwayref24_SameLines r13 r15 = some r17) (c19 : r17 = true) (r20 : Bool) (h21 : awakeF = some r20) : Ret Try.prog G0 3 [.lst (fl Tapi_Discount.enc l_0) l_0.length, .int .i64 cents_1] (.bool r20) [] :=
  Ret.of_view 400 ((tollwaylaw24_DiscountBest_h1 l_0 r1) ++ ((tollwaylaw24_DiscountBest_h2 l_0 cents_1 r4 r6) ++ ((tollwaylaw24_DiscountBest_h3) ++ ((tollwaylaw24_DiscountBest_h4 r4 r6 r10) ++ ((tollwaylaw24_DiscountBest_h5 l_0 cents_1 r13 r15 r17) ++ ((.ret (some true) [] (.bool r20) []) :: (cs 2 []))))))) [] (ps := ([((.lst (fl Tapi_Discount.enc l_0) l_0.length : AV) = .lst (fl Tapi_Discount.enc l_0) l_0.length), (Ret Try.prog G0 8 [.lst (fl Tapi_Discount.enc l_0) l_0.length] (.bool r1) [])] ++ ((tollwaylaw24_DiscountBest_p6 l_0 cents_1 r1 r4 r6) ++ ([((r4.2.2 == r6.2.2) = true)] ++ ((tollwaylaw24_DiscountBest_p7 r4 r6 r10) ++ ((tollwaylaw24_DiscountBest_p8 l_0 cents_1 r10 r13 r15 r17) ++ [(r17 = true), (Ret Try.prog G0 9 [] (.bool r20) [])])))))) (by kernel_rfl) (by kernel_rfl) (allOk_append.2 ⟨⟨rfl, ok1 (tollwaylaw24_few_ret l_0 r1 h2)⟩, (allOk_append.2 ⟨(tollwaylaw24_DiscountBest_p6q l_0 cents_1 r1 c3 r4 h5 r6 h7), (allOk_append.2 ⟨(ok1 (beq_t c8)), (allOk_append.2 ⟨(tollwaylaw24_DiscountBest_p7q r4 r6 c9 r10 h11), (allOk_append.2 ⟨(tollwaylaw24_DiscountBest_p8q l_0 cents_1 r10 c12 r13 h14 r15 h16 r17 h18), ⟨c19, ok1 (awake24_ret r20 h21)⟩⟩)⟩)⟩)⟩)⟩)
theorem tollwaylaw24_DiscountBest_1 (l_0 : (List Tapi_Discount)) (cents_1 : Int) (r1 : Bool) (h2 : tollwaylaw24_few l_0 = some r1) (c3 : r1 = true) (r4 : ((List Int) × Int × Int)) (h5 : discount_Best l_0 cents_1 = some r4) (r6 : ((List Int) × Int × Int)) (h7 : tollwayref24_Best l_0 cents_1 = some r6) (c8 : r4.2.2 = r6.2.2) (c9 : r4.2.1 = r6.2.1) (r10 : Bool) (h11 : tollwayref20_SameNumbers r4.1 r6.1 = some r10) (c12 : r10 = true) (r13 : (List Tapi_Line)) (h14 : discount_Lines l_0 cents_1 = some r13) (r15 : (List Tapi_Line)) (h16 : tollwayref24_Lines l_0 cents_1 = some r15) (r17 : Bool) (h18 : tollwayref24_SameLines r13 r15 = some r17) (c19 : ¬ (r17 = true)) : Ret Try.prog G0 3 [.lst (fl Tapi_Discount.enc l_0) l_0.length, .int .i64 cents_1] (.bool false) [] :=
  Ret.of_view 400 ((tollwaylaw24_DiscountBest_h1 l_0 r1) ++ ((tollwaylaw24_DiscountBest_h2 l_0 cents_1 r4 r6) ++ ((tollwaylaw24_DiscountBest_h3) ++ ((tollwaylaw24_DiscountBest_h4 r4 r6 r10) ++ ((tollwaylaw24_DiscountBest_h5 l_0 cents_1 r13 r15 r17) ++ ((.op (some false) .c) :: (cs 2 []))))))) [] (ps := ([((.lst (fl Tapi_Discount.enc l_0) l_0.length : AV) = .lst (fl Tapi_Discount.enc l_0) l_0.length), (Ret Try.prog G0 8 [.lst (fl Tapi_Discount.enc l_0) l_0.length] (.bool r1) [])] ++ ((tollwaylaw24_DiscountBest_p6 l_0 cents_1 r1 r4 r6) ++ ([((r4.2.2 == r6.2.2) = true)] ++ ((tollwaylaw24_DiscountBest_p7 r4 r6 r10) ++ ((tollwaylaw24_DiscountBest_p8 l_0 cents_1 r10 r13 r15 r17) ++ [(r17 = false)])))))) (by kernel_rfl) (by kernel_rfl) (allOk_append.2 ⟨⟨rfl, ok1 (tollwaylaw24_few_ret l_0 r1 h2)⟩, (allOk_append.2 ⟨(tollwaylaw24_DiscountBest_p6q l_0 cents_1 r1 c3 r4 h5 r6 h7), (allOk_append.2 ⟨(ok1 (beq_t c8)), (allOk_append.2 ⟨(tollwaylaw24_DiscountBest_p7q r4 r6 c9 r10 h11), (allOk_append.2 ⟨(tollwaylaw24_DiscountBest_p8q l_0 cents_1 r10 c12 r13 h14 r15 h16 r17 h18), (ok1 (eq_false_of_ne_true c19))⟩)⟩)⟩)⟩)⟩)
theorem tollwaylaw24_DiscountBest_2 (l_0 : (List Tapi_Discount)) (cents_1 : Int) (r1 : Bool) (h2 : tollwaylaw24_few l_0 = some r1) (c3 : r1 = true) (r4 : ((List Int) × Int × Int)) (h5 : discount_Best l_0 cents_1 = some r4) (r6 : ((List Int) × Int × Int)) (h7 : tollwayref24_Best l_0 cents_1 = some r6) (c8 : r4.2.2 = r6.2.2) (c9 : r4.2.1 = r6.2.1) (r10 : Bool) (h11 : tollwayref20_SameNumbers r4.1 r6.1 = some r10) (c12 : ¬ (r10 = true)) : Ret Try.prog G0 3 [.lst (fl Tapi_Discount.enc l_0) l_0.length, .int .i64 cents_1] (.bool false) [] :=
  Ret.of_view 400 ((tollwaylaw24_DiscountBest_h1 l_0 r1) ++ ((tollwaylaw24_DiscountBest_h2 l_0 cents_1 r4 r6) ++ ((tollwaylaw24_DiscountBest_h3) ++ ((tollwaylaw24_DiscountBest_h4 r4 r6 r10) ++ ((.op (some false) .c) :: (cs 11 [])))))) [] (ps := ([((.lst (fl Tapi_Discount.enc l_0) l_0.length : AV) = .lst (fl Tapi_Discount.enc l_0) l_0.length), (Ret Try.prog G0 8 [.lst (fl Tapi_Discount.enc l_0) l_0.length] (.bool r1) [])] ++ ((tollwaylaw24_DiscountBest_p6 l_0 cents_1 r1 r4 r6) ++ ([((r4.2.2 == r6.2.2) = true)] ++ ((tollwaylaw24_DiscountBest_p7 r4 r6 r10) ++ [(r10 = false)]))))) (by kernel_rfl) (by kernel_rfl) (allOk_append.2 ⟨⟨rfl, ok1 (tollwaylaw24_few_ret l_0 r1 h2)⟩, (allOk_append.2 ⟨(tollwaylaw24_DiscountBest_p6q l_0 cents_1 r1 c3 r4 h5 r6 h7), (allOk_append.2 ⟨(ok1 (beq_t c8)), (allOk_append.2 ⟨(tollwaylaw24_DiscountBest_p7q r4 r6 c9 r10 h11), (ok1 (eq_false_of_ne_true c12))⟩)⟩)⟩)⟩)
theorem tollwaylaw24_DiscountBest_3 (l_0 : (List Tapi_Discount)) (cents_1 : Int) (r1 : Bool) (h2 : tollwaylaw24_few l_0 = some r1) (c3 : r1 = true) (r4 : ((List Int) × Int × Int)) (h5 : discount_Best l_0 cents_1 = some r4) (r6 : ((List Int) × Int × Int)) (h7 : tollwayref24_Best l_0 cents_1 = some r6) (c8 : r4.2.2 = r6.2.2) (c9 : ¬ (r4.2.1 = r6.2.1)) : Ret Try.prog G0 3 [.lst (fl Tapi_Discount.enc l_0) l_0.length, .int .i64 cents_1] (.bool false) [] :=
  Ret.of_view 400 ((tollwaylaw24_DiscountBest_h1 l_0 r1) ++ ((tollwaylaw24_DiscountBest_h2 l_0 cents_1 r4 r6) ++ ((tollwaylaw24_DiscountBest_h3) ++ ((.op (some false) .c) :: (cs 16 []))))) [] (ps := ([((.lst (fl Tapi_Discount.enc l_0) l_0.length : AV) = .lst (fl Tapi_Discount.enc l_0) l_0.length), (Ret Try.prog G0 8 [.lst (fl Tapi_Discount.enc l_0) l_0.length] (.bool r1) [])] ++ ((tollwaylaw24_DiscountBest_p6 l_0 cents_1 r1 r4 r6) ++ ([((r4.2.2 == r6.2.2) = true)] ++ [((r4.2.1 == r6.2.1) = false)])))) (by kernel_rfl) (by kernel_rfl) (allOk_append.2 ⟨⟨rfl, ok1 (tollwaylaw24_few_ret l_0 r1 h2)⟩, (allOk_append.2 ⟨(tollwaylaw24_DiscountBest_p6q l_0 cents_1 r1 c3 r4 h5 r6 h7), (allOk_append.2 ⟨(ok1 (beq_t c8)), (ok1 (beq_f c9))⟩)⟩)⟩)
theorem tollwaylaw24_DiscountBest_4 (l_0 : (List Tapi_Discount)) (cents_1 : Int) (r1 : Bool) (h2 : tollwaylaw24_few l_0 = some r1) (c3 : r1 = true) (r4 : ((List Int) × Int × Int)) (h5 : discount_Best l_0 cents_1 = some r4) (r6 : ((List Int) × Int × Int)) (h7 : tollwayref24_Best l_0 cents_1 = some r6) (c8 : ¬ (r4.2.2 = r6.2.2)) : Ret Try.prog G0 3 [.lst (fl Tapi_Discount.enc l_0) l_0.length, .int .i64 cents_1] (.bool false) [] :=
  Ret.of_view 400 ((tollwaylaw24_DiscountBest_h1 l_0 r1) ++ ((tollwaylaw24_DiscountBest_h2 l_0 cents_1 r4 r6) ++ ((.op (some false) .c) :: (cs 21 [])))) [] (ps := ([((.lst (fl Tapi_Discount.enc l_0) l_0.length : AV) = .lst (fl Tapi_Discount.enc l_0) l_0.length), (Ret Try.prog G0 8 [.lst (fl Tapi_Discount.enc l_0) l_0.length] (.bool r1) [])] ++ ((tollwaylaw24_DiscountBest_p6 l_0 cents_1 r1 r4 r6) ++ [((r4.2.2 == r6.2.2) = false)]))) (by kernel_rfl) (by kernel_rfl) (allOk_append.2 ⟨⟨rfl, ok1 (tollwaylaw24_few_ret l_0 r1 h2)⟩, (allOk_append.2 ⟨(tollwaylaw24_DiscountBest_p6q l_0 cents_1 r1 c3 r4 h5 r6 h7), (ok1 (beq_f c8))⟩)⟩)
theorem tollwaylaw24_DiscountBest_5 (l_0 : (List Tapi_Discount)) (cents_1 : Int) (r1 : Bool) (h2 : tollwaylaw24_few l_0 = some r1) (c3 : ¬ (r1 = true)) (r22 : Bool) (h23 : awakeF = some r22) : Ret Try.prog G0 3 [.lst (fl Tapi_Discount.enc l_0) l_0.length, .int .i64 cents_1] (.bool r22) [] :=
  Ret.of_view 400 ((tollwaylaw24_DiscountBest_h1 l_0 r1) ++ [.br true, .ret none [] (.bool r22) [], .op none .c]) [] (ps := ([((.lst (fl Tapi_Discount.enc l_0) l_0.length : AV) = .lst (fl Tapi_Discount.enc l_0) l_0.length), (Ret Try.prog G0 8 [.lst (fl Tapi_Discount.enc l_0) l_0.length] (.bool r1) [])] ++ [((!r1) = true), (Ret Try.prog G0 9 [] (.bool r22) [])])) (by kernel_rfl) (by kernel_rfl) (allOk_append.2 ⟨⟨rfl, ok1 (tollwaylaw24_few_ret l_0 r1 h2)⟩, ⟨(not_t (eq_false_of_ne_true c3)), ok1 (awake24_ret r22 h23)⟩⟩)
theorem tollwaylaw24_DiscountBest_ret (l_0 : (List Tapi_Discount)) (cents_1 : Int) (r : Bool) (h : tollwaylaw24_DiscountBest l_0 cents_1 = some r) : Ret Try.prog G0 3 [.lst (fl Tapi_Discount.enc l_0) l_0.length, .int .i64 cents_1] (.bool r) [] := by
  unfold tollwaylaw24_DiscountBest at h
  obtain ⟨r1, h2, h⟩ := bind_some h
  rcases ite_some h with ⟨c3, h⟩ | ⟨c3, h⟩
  · obtain ⟨r4, h5, h⟩ := bind_some h
    obtain ⟨r6, h7, h⟩ := bind_some h
    rcases ite_some h with ⟨c8, h⟩ | ⟨c8, h⟩
    · rcases ite_some h with ⟨c9, h⟩ | ⟨c9, h⟩
      · obtain ⟨r10, h11, h⟩ := bind_some h
        rcases ite_some h with ⟨c12, h⟩ | ⟨c12, h⟩
        · obtain ⟨r13, h14, h⟩ := bind_some h
          obtain ⟨r15, h16, h⟩ := bind_some h
          obtain ⟨r17, h18, h⟩ := bind_some h
          rcases ite_some h with ⟨c19, h⟩ | ⟨c19, h⟩
          · obtain ⟨r20, h21, h⟩ := bind_some h
            simp only [Option.some.injEq] at h
            subst h
            exact tollwaylaw24_DiscountBest_0 l_0 cents_1 r1 h2 c3 r4 h5 r6 h7 c8 c9 r10 h11 c12 r13 h14 r15 h16 r17 h18 c19 r20 h21
          · simp only [Option.some.injEq] at h
            subst h
            exact tollwaylaw24_DiscountBest_1 l_0 cents_1 r1 h2 c3 r4 h5 r6 h7 c8 c9 r10 h11 c12 r13 h14 r15 h16 r17 h18 c19
        · simp only [Option.some.injEq] at h
          subst h
          exact tollwaylaw24_DiscountBest_2 l_0 cents_1 r1 h2 c3 r4 h5 r6 h7 c8 c9 r10 h11 c12
      · simp only [Option.some.injEq] at h
        subst h
        exact tollwaylaw24_DiscountBest_3 l_0 cents_1 r1 h2 c3 r4 h5 r6 h7 c8 c9
    · simp only [Option.some.injEq] at h
      subst h
      exact tollwaylaw24_DiscountBest_4 l_0 cents_1 r1 h2 c3 r4 h5 r6 h7 c8
  · obtain ⟨r22, h23, h⟩ := bind_some h
    simp only [Option.some.injEq] at h
    subst h
    exact tollwaylaw24_DiscountBest_5 l_0 cents_1 r1 h2 c3 r22 h23
end Go.Proofs.Ytabjlmlfmafllaa.Av
