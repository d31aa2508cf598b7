import Derived.Test.YtalobodhbbkgdaaDoorAvX
import Derived.Test.YtalobodhbbkgdaaDoorProg
import Derived.Tactics
import Derived.Test.YtalobodhbbkgdaaDoorT2
import Derived.Test.YtalobodhbbkgdaaDoorTA
set_option linter.unusedVariables false
set_option linter.unusedSimpArgs false
set_option maxHeartbeats 4000000
namespace Go.Proofs.YtalobodhbbkgdaaDoor.Av
open Go Go.Proofs
noncomputable def tollwaylaw11_TagChecks (s_0 : (List UInt8)) : Option Bool :=
  if (↑s_0.length : Int) > (100 : Int) then
    some true
  else
    (tag_Agency s_0).bind fun r2 =>
    (tag_Serial s_0).bind fun r4 =>
    (tollwayref11_Agency s_0).bind fun r6 =>
    (tollwayref11_Serial s_0).bind fun r8 =>
    (tag_Check s_0).bind fun r10 =>
    (tollwayref11_Check s_0).bind fun r12 =>
    if r10 = r12 then
      if r2.1 = r6.1 then
        if r2.2 = r6.2 then
          if r4.1 = r8.1 then
            if r4.2 = r8.2 then
              (tollwaylaw11_alive).bind fun r19 =>
              some r19
            else
              some false
          else
            some false
        else
          some false
      else
        some false
    else
      some false
theorem tollwaylaw11_TagChecks_0 (s_0 : (List UInt8)) (c1 : (↑s_0.length : Int) > (100 : Int)) : Ret Tryd.prog GT 9 [.str s_0] (.bool true) [] :=
  Ret.of_view 400 (cs 3 [.op none .a, .br true, .op none .c]) [] (ps := [((decide ((↑s_0.length : Int) > (100 : Int))) = true)]) (by kernel_rfl) (by kernel_rfl) (ok1 (decide_eq_true c1))
theorem tollwaylaw11_TagChecks_1 (s_0 : (List UInt8)) (c1 : ¬ ((↑s_0.length : Int) > (100 : Int))) (r2 : ((List UInt8) × Int)) (h3 : tag_Agency s_0 = some r2) (r4 : (Int × Int)) (h5 : tag_Serial s_0 = some r4) (r6 : ((List UInt8) × Int)) (h7 : tollwayref11_Agency s_0 = some r6) (r8 : (Int × Int)) (h9 : tollwayref11_Serial s_0 = some r8) (r10 : Int) (h11 : tag_Check s_0 = some r10) (r12 : Int) (h13 : tollwayref11_Check s_0 = some r12) (c14 : r10 = r12) (c15 : r2.1 = r6.1) (c16 : r2.2 = r6.2) (c17 : r4.1 = r8.1) (c18 : r4.2 = r8.2) (r19 : Bool) (h20 : tollwaylaw11_alive = some r19) : Ret Tryd.prog GT 9 [.str s_0] (.bool r19) [] :=
  Ret.of_view 400 (cs 3 ((.op none .a) :: (.br false) :: (.op none .c) :: (.ret none [.str s_0] (.tup [.str r2.1, .int .i64 r2.2]) []) :: (cs 6 ((.ret none [.str s_0] (.tup [.int .i64 r4.1, .int .i64 r4.2]) []) :: (cs 6 ((.ret none [.str s_0] (.tup [.str r6.1, .int .i64 r6.2]) []) :: (cs 6 ((.ret none [.str s_0] (.tup [.int .i64 r8.1, .int .i64 r8.2]) []) :: (cs 6 ((.ret none [.str s_0] (.int .i64 r10) []) :: (.op none .c) :: (.ret none [.str s_0] (.int .i64 r12) []) :: (.op none .a) :: (.op none .c) :: (.op (some true) .c) :: (.op none .c) :: (.op none .a) :: (cs 2 ((.op (some true) .c) :: (.op none .c) :: (.op none .a) :: (cs 2 ((.op (some true) .c) :: (.op none .c) :: (.op none .a) :: (cs 2 ((.op (some true) .c) :: (.op none .c) :: (.op none .a) :: (cs 2 ((.ret (some true) [] (.bool r19) []) :: (cs 2 []))))))))))))))))))) [] (ps := [((decide ((↑s_0.length : Int) > (100 : Int))) = false), ((.str s_0 : AV) = .str s_0), (Ret Tryd.prog GT 19 [.str s_0] (.tup [.str r2.1, .int .i64 r2.2]) []), ((.str s_0 : AV) = .str s_0), (Ret Tryd.prog GT 20 [.str s_0] (.tup [.int .i64 r4.1, .int .i64 r4.2]) []), ((.str s_0 : AV) = .str s_0), (Ret Tryd.prog GT 21 [.str s_0] (.tup [.str r6.1, .int .i64 r6.2]) []), ((.str s_0 : AV) = .str s_0), (Ret Tryd.prog GT 22 [.str s_0] (.tup [.int .i64 r8.1, .int .i64 r8.2]) []), ((.str s_0 : AV) = .str s_0), (Ret Tryd.prog GT 18 [.str s_0] (.int .i64 r10) []), ((.str s_0 : AV) = .str s_0), (Ret Tryd.prog GT 23 [.str s_0] (.int .i64 r12) []), ((r10 == r12) = true), ((r2.1 == r6.1) = true), ((r2.2 == r6.2) = true), ((r4.1 == r8.1) = true), ((r4.2 == r8.2) = true), (Ret Tryd.prog GT 13 [] (.bool r19) [])]) (by kernel_rfl) (by kernel_rfl) ⟨(decide_eq_false c1), rfl, (tag_Agency_ret s_0 r2 h3), rfl, (tag_Serial_ret s_0 r4 h5), rfl, (tollwayref11_Agency_ret s_0 r6 h7), rfl, (tollwayref11_Serial_ret s_0 r8 h9), rfl, (tag_Check_ret s_0 r10 h11), rfl, (tollwayref11_Check_ret s_0 r12 h13), (beq_t c14), (beq_t c15), (beq_t c16), (beq_t c17), (beq_t c18), ok1 (tollwaylaw11_alive_ret r19 h20)⟩
theorem tollwaylaw11_TagChecks_2 (s_0 : (List UInt8)) (c1 : ¬ ((↑s_0.length : Int) > (100 : Int))) (r2 : ((List UInt8) × Int)) (h3 : tag_Agency s_0 = some r2) (r4 : (Int × Int)) (h5 : tag_Serial s_0 = some r4) (r6 : ((List UInt8) × Int)) (h7 : tollwayref11_Agency s_0 = some r6) (r8 : (Int × Int)) (h9 : tollwayref11_Serial s_0 = some r8) (r10 : Int) (h11 : tag_Check s_0 = some r10) (r12 : Int) (h13 : tollwayref11_Check s_0 = some r12) (c14 : r10 = r12) (c15 : r2.1 = r6.1) (c16 : r2.2 = r6.2) (c17 : r4.1 = r8.1) (c18 : ¬ (r4.2 = r8.2)) : Ret Tryd.prog GT 9 [.str s_0] (.bool false) [] :=
  Ret.of_view 400 (cs 3 ((.op none .a) :: (.br false) :: (.op none .c) :: (.ret none [.str s_0] (.tup [.str r2.1, .int .i64 r2.2]) []) :: (cs 6 ((.ret none [.str s_0] (.tup [.int .i64 r4.1, .int .i64 r4.2]) []) :: (cs 6 ((.ret none [.str s_0] (.tup [.str r6.1, .int .i64 r6.2]) []) :: (cs 6 ((.ret none [.str s_0] (.tup [.int .i64 r8.1, .int .i64 r8.2]) []) :: (cs 6 ((.ret none [.str s_0] (.int .i64 r10) []) :: (.op none .c) :: (.ret none [.str s_0] (.int .i64 r12) []) :: (.op none .a) :: (.op none .c) :: (.op (some true) .c) :: (.op none .c) :: (.op none .a) :: (cs 2 ((.op (some true) .c) :: (.op none .c) :: (.op none .a) :: (cs 2 ((.op (some true) .c) :: (.op none .c) :: (.op none .a) :: (cs 2 ((.op (some true) .c) :: (.op none .c) :: (.op none .a) :: (cs 2 ((.op (some false) .c) :: (cs 2 []))))))))))))))))))) [] (ps := [((decide ((↑s_0.length : Int) > (100 : Int))) = false), ((.str s_0 : AV) = .str s_0), (Ret Tryd.prog GT 19 [.str s_0] (.tup [.str r2.1, .int .i64 r2.2]) []), ((.str s_0 : AV) = .str s_0), (Ret Tryd.prog GT 20 [.str s_0] (.tup [.int .i64 r4.1, .int .i64 r4.2]) []), ((.str s_0 : AV) = .str s_0), (Ret Tryd.prog GT 21 [.str s_0] (.tup [.str r6.1, .int .i64 r6.2]) []), ((.str s_0 : AV) = .str s_0), (Ret Tryd.prog GT 22 [.str s_0] (.tup [.int .i64 r8.1, .int .i64 r8.2]) []), ((.str s_0 : AV) = .str s_0), (Ret Tryd.prog GT 18 [.str s_0] (.int .i64 r10) []), ((.str s_0 : AV) = .str s_0), (Ret Tryd.prog GT 23 [.str s_0] (.int .i64 r12) []), ((r10 == r12) = true), ((r2.1 == r6.1) = true), ((r2.2 == r6.2) = true), ((r4.1 == r8.1) = true), ((r4.2 == r8.2) = false)]) (by kernel_rfl) (by kernel_rfl) ⟨(decide_eq_false c1), rfl, (tag_Agency_ret s_0 r2 h3), rfl, (tag_Serial_ret s_0 r4 h5), rfl, (tollwayref11_Agency_ret s_0 r6 h7), rfl, (tollwayref11_Serial_ret s_0 r8 h9), rfl, (tag_Check_ret s_0 r10 h11), rfl, (tollwayref11_Check_ret s_0 r12 h13), (beq_t c14), (beq_t c15), (beq_t c16), (beq_t c17), ok1 (beq_f c18)⟩
theorem tollwaylaw11_TagChecks_3 (s_0 : (List UInt8)) (c1 : ¬ ((↑s_0.length : Int) > (100 : Int))) (r2 : ((List UInt8) × Int)) (h3 : tag_Agency s_0 = some r2) (r4 : (Int × Int)) (h5 : tag_Serial s_0 = some r4) (r6 : ((List UInt8) × Int)) (h7 : tollwayref11_Agency s_0 = some r6) (r8 : (Int × Int)) (h9 : tollwayref11_Serial s_0 = some r8) (r10 : Int) (h11 : tag_Check s_0 = some r10) (r12 : Int) (h13 : tollwayref11_Check s_0 = some r12) (c14 : r10 = r12) (c15 : r2.1 = r6.1) (c16 : r2.2 = r6.2) (c17 : ¬ (r4.1 = r8.1)) : Ret Tryd.prog GT 9 [.str s_0] (.bool false) [] :=
  Ret.of_view 400 (cs 3 ((.op none .a) :: (.br false) :: (.op none .c) :: (.ret none [.str s_0] (.tup [.str r2.1, .int .i64 r2.2]) []) :: (cs 6 ((.ret none [.str s_0] (.tup [.int .i64 r4.1, .int .i64 r4.2]) []) :: (cs 6 ((.ret none [.str s_0] (.tup [.str r6.1, .int .i64 r6.2]) []) :: (cs 6 ((.ret none [.str s_0] (.tup [.int .i64 r8.1, .int .i64 r8.2]) []) :: (cs 6 ((.ret none [.str s_0] (.int .i64 r10) []) :: (.op none .c) :: (.ret none [.str s_0] (.int .i64 r12) []) :: (.op none .a) :: (.op none .c) :: (.op (some true) .c) :: (.op none .c) :: (.op none .a) :: (cs 2 ((.op (some true) .c) :: (.op none .c) :: (.op none .a) :: (cs 2 ((.op (some true) .c) :: (.op none .c) :: (.op none .a) :: (cs 2 ((.op (some false) .c) :: (cs 7 []))))))))))))))))) [] (ps := [((decide ((↑s_0.length : Int) > (100 : Int))) = false), ((.str s_0 : AV) = .str s_0), (Ret Tryd.prog GT 19 [.str s_0] (.tup [.str r2.1, .int .i64 r2.2]) []), ((.str s_0 : AV) = .str s_0), (Ret Tryd.prog GT 20 [.str s_0] (.tup [.int .i64 r4.1, .int .i64 r4.2]) []), ((.str s_0 : AV) = .str s_0), (Ret Tryd.prog GT 21 [.str s_0] (.tup [.str r6.1, .int .i64 r6.2]) []), ((.str s_0 : AV) = .str s_0), (Ret Tryd.prog GT 22 [.str s_0] (.tup [.int .i64 r8.1, .int .i64 r8.2]) []), ((.str s_0 : AV) = .str s_0), (Ret Tryd.prog GT 18 [.str s_0] (.int .i64 r10) []), ((.str s_0 : AV) = .str s_0), (Ret Tryd.prog GT 23 [.str s_0] (.int .i64 r12) []), ((r10 == r12) = true), ((r2.1 == r6.1) = true), ((r2.2 == r6.2) = true), ((r4.1 == r8.1) = false)]) (by kernel_rfl) (by kernel_rfl) ⟨(decide_eq_false c1), rfl, (tag_Agency_ret s_0 r2 h3), rfl, (tag_Serial_ret s_0 r4 h5), rfl, (tollwayref11_Agency_ret s_0 r6 h7), rfl, (tollwayref11_Serial_ret s_0 r8 h9), rfl, (tag_Check_ret s_0 r10 h11), rfl, (tollwayref11_Check_ret s_0 r12 h13), (beq_t c14), (beq_t c15), (beq_t c16), ok1 (beq_f c17)⟩
theorem tollwaylaw11_TagChecks_4 (s_0 : (List UInt8)) (c1 : ¬ ((↑s_0.length : Int) > (100 : Int))) (r2 : ((List UInt8) × Int)) (h3 : tag_Agency s_0 = some r2) (r4 : (Int × Int)) (h5 : tag_Serial s_0 = some r4) (r6 : ((List UInt8) × Int)) (h7 : tollwayref11_Agency s_0 = some r6) (r8 : (Int × Int)) (h9 : tollwayref11_Serial s_0 = some r8) (r10 : Int) (h11 : tag_Check s_0 = some r10) (r12 : Int) (h13 : tollwayref11_Check s_0 = some r12) (c14 : r10 = r12) (c15 : r2.1 = r6.1) (c16 : ¬ (r2.2 = r6.2)) : Ret Tryd.prog GT 9 [.str s_0] (.bool false) [] :=
  Ret.of_view 400 (cs 3 ((.op none .a) :: (.br false) :: (.op none .c) :: (.ret none [.str s_0] (.tup [.str r2.1, .int .i64 r2.2]) []) :: (cs 6 ((.ret none [.str s_0] (.tup [.int .i64 r4.1, .int .i64 r4.2]) []) :: (cs 6 ((.ret none [.str s_0] (.tup [.str r6.1, .int .i64 r6.2]) []) :: (cs 6 ((.ret none [.str s_0] (.tup [.int .i64 r8.1, .int .i64 r8.2]) []) :: (cs 6 ((.ret none [.str s_0] (.int .i64 r10) []) :: (.op none .c) :: (.ret none [.str s_0] (.int .i64 r12) []) :: (.op none .a) :: (.op none .c) :: (.op (some true) .c) :: (.op none .c) :: (.op none .a) :: (cs 2 ((.op (some true) .c) :: (.op none .c) :: (.op none .a) :: (cs 2 ((.op (some false) .c) :: (cs 12 []))))))))))))))) [] (ps := [((decide ((↑s_0.length : Int) > (100 : Int))) = false), ((.str s_0 : AV) = .str s_0), (Ret Tryd.prog GT 19 [.str s_0] (.tup [.str r2.1, .int .i64 r2.2]) []), ((.str s_0 : AV) = .str s_0), (Ret Tryd.prog GT 20 [.str s_0] (.tup [.int .i64 r4.1, .int .i64 r4.2]) []), ((.str s_0 : AV) = .str s_0), (Ret Tryd.prog GT 21 [.str s_0] (.tup [.str r6.1, .int .i64 r6.2]) []), ((.str s_0 : AV) = .str s_0), (Ret Tryd.prog GT 22 [.str s_0] (.tup [.int .i64 r8.1, .int .i64 r8.2]) []), ((.str s_0 : AV) = .str s_0), (Ret Tryd.prog GT 18 [.str s_0] (.int .i64 r10) []), ((.str s_0 : AV) = .str s_0), (Ret Tryd.prog GT 23 [.str s_0] (.int .i64 r12) []), ((r10 == r12) = true), ((r2.1 == r6.1) = true), ((r2.2 == r6.2) = false)]) (by kernel_rfl) (by kernel_rfl) ⟨(decide_eq_false c1), rfl, (tag_Agency_ret s_0 r2 h3), rfl, (tag_Serial_ret s_0 r4 h5), rfl, (tollwayref11_Agency_ret s_0 r6 h7), rfl, (tollwayref11_Serial_ret s_0 r8 h9), rfl, (tag_Check_ret s_0 r10 h11), rfl, (tollwayref11_Check_ret s_0 r12 h13), (beq_t c14), (beq_t c15), ok1 (beq_f c16)⟩
theorem tollwaylaw11_TagChecks_5 (s_0 : (List UInt8)) (c1 : ¬ ((↑s_0.length : Int) > (100 : Int))) (r2 : ((List UInt8) × Int)) (h3 : tag_Agency s_0 = some r2) (r4 : (Int × Int)) (h5 : tag_Serial s_0 = some r4) (r6 : ((List UInt8) × Int)) (h7 : tollwayref11_Agency s_0 = some r6) (r8 : (Int × Int)) (h9 : tollwayref11_Serial s_0 = some r8) (r10 : Int) (h11 : tag_Check s_0 = some r10) (r12 : Int) (h13 : tollwayref11_Check s_0 = some r12) (c14 : r10 = r12) (c15 : ¬ (r2.1 = r6.1)) : Ret Tryd.prog GT 9 [.str s_0] (.bool false) [] :=
  Ret.of_view 400 (cs 3 ((.op none .a) :: (.br false) :: (.op none .c) :: (.ret none [.str s_0] (.tup [.str r2.1, .int .i64 r2.2]) []) :: (cs 6 ((.ret none [.str s_0] (.tup [.int .i64 r4.1, .int .i64 r4.2]) []) :: (cs 6 ((.ret none [.str s_0] (.tup [.str r6.1, .int .i64 r6.2]) []) :: (cs 6 ((.ret none [.str s_0] (.tup [.int .i64 r8.1, .int .i64 r8.2]) []) :: (cs 6 ((.ret none [.str s_0] (.int .i64 r10) []) :: (.op none .c) :: (.ret none [.str s_0] (.int .i64 r12) []) :: (.op none .a) :: (.op none .c) :: (.op (some true) .c) :: (.op none .c) :: (.op none .a) :: (cs 2 ((.op (some false) .c) :: (cs 17 []))))))))))))) [] (ps := [((decide ((↑s_0.length : Int) > (100 : Int))) = false), ((.str s_0 : AV) = .str s_0), (Ret Tryd.prog GT 19 [.str s_0] (.tup [.str r2.1, .int .i64 r2.2]) []), ((.str s_0 : AV) = .str s_0), (Ret Tryd.prog GT 20 [.str s_0] (.tup [.int .i64 r4.1, .int .i64 r4.2]) []), ((.str s_0 : AV) = .str s_0), (Ret Tryd.prog GT 21 [.str s_0] (.tup [.str r6.1, .int .i64 r6.2]) []), ((.str s_0 : AV) = .str s_0), (Ret Tryd.prog GT 22 [.str s_0] (.tup [.int .i64 r8.1, .int .i64 r8.2]) []), ((.str s_0 : AV) = .str s_0), (Ret Tryd.prog GT 18 [.str s_0] (.int .i64 r10) []), ((.str s_0 : AV) = .str s_0), (Ret Tryd.prog GT 23 [.str s_0] (.int .i64 r12) []), ((r10 == r12) = true), ((r2.1 == r6.1) = false)]) (by kernel_rfl) (by kernel_rfl) ⟨(decide_eq_false c1), rfl, (tag_Agency_ret s_0 r2 h3), rfl, (tag_Serial_ret s_0 r4 h5), rfl, (tollwayref11_Agency_ret s_0 r6 h7), rfl, (tollwayref11_Serial_ret s_0 r8 h9), rfl, (tag_Check_ret s_0 r10 h11), rfl, (tollwayref11_Check_ret s_0 r12 h13), (beq_t c14), ok1 (beq_f c15)⟩
theorem tollwaylaw11_TagChecks_6 (s_0 : (List UInt8)) (c1 : ¬ ((↑s_0.length : Int) > (100 : Int))) (r2 : ((List UInt8) × Int)) (h3 : tag_Agency s_0 = some r2) (r4 : (Int × Int)) (h5 : tag_Serial s_0 = some r4) (r6 : ((List UInt8) × Int)) (h7 : tollwayref11_Agency s_0 = some r6) (r8 : (Int × Int)) (h9 : tollwayref11_Serial s_0 = some r8) (r10 : Int) (h11 : tag_Check s_0 = some r10) (r12 : Int) (h13 : tollwayref11_Check s_0 = some r12) (c14 : ¬ (r10 = r12)) : Ret Tryd.prog GT 9 [.str s_0] (.bool false) [] :=
  Ret.of_view 400 (cs 3 ((.op none .a) :: (.br false) :: (.op none .c) :: (.ret none [.str s_0] (.tup [.str r2.1, .int .i64 r2.2]) []) :: (cs 6 ((.ret none [.str s_0] (.tup [.int .i64 r4.1, .int .i64 r4.2]) []) :: (cs 6 ((.ret none [.str s_0] (.tup [.str r6.1, .int .i64 r6.2]) []) :: (cs 6 ((.ret none [.str s_0] (.tup [.int .i64 r8.1, .int .i64 r8.2]) []) :: (cs 6 ((.ret none [.str s_0] (.int .i64 r10) []) :: (.op none .c) :: (.ret none [.str s_0] (.int .i64 r12) []) :: (.op none .a) :: (.op none .c) :: (.op (some false) .c) :: (cs 22 []))))))))))) [] (ps := [((decide ((↑s_0.length : Int) > (100 : Int))) = false), ((.str s_0 : AV) = .str s_0), (Ret Tryd.prog GT 19 [.str s_0] (.tup [.str r2.1, .int .i64 r2.2]) []), ((.str s_0 : AV) = .str s_0), (Ret Tryd.prog GT 20 [.str s_0] (.tup [.int .i64 r4.1, .int .i64 r4.2]) []), ((.str s_0 : AV) = .str s_0), (Ret Tryd.prog GT 21 [.str s_0] (.tup [.str r6.1, .int .i64 r6.2]) []), ((.str s_0 : AV) = .str s_0), (Ret Tryd.prog GT 22 [.str s_0] (.tup [.int .i64 r8.1, .int .i64 r8.2]) []), ((.str s_0 : AV) = .str s_0), (Ret Tryd.prog GT 18 [.str s_0] (.int .i64 r10) []), ((.str s_0 : AV) = .str s_0), (Ret Tryd.prog GT 23 [.str s_0] (.int .i64 r12) []), ((r10 == r12) = false)]) (by kernel_rfl) (by kernel_rfl) ⟨(decide_eq_false c1), rfl, (tag_Agency_ret s_0 r2 h3), rfl, (tag_Serial_ret s_0 r4 h5), rfl, (tollwayref11_Agency_ret s_0 r6 h7), rfl, (tollwayref11_Serial_ret s_0 r8 h9), rfl, (tag_Check_ret s_0 r10 h11), rfl, (tollwayref11_Check_ret s_0 r12 h13), ok1 (beq_f c14)⟩
theorem tollwaylaw11_TagChecks_ret (s_0 : (List UInt8)) (r : Bool) (h : tollwaylaw11_TagChecks s_0 = some r) : Ret Tryd.prog GT 9 [.str s_0] (.bool r) [] := by
  unfold tollwaylaw11_TagChecks at h
  rcases ite_some h with ⟨c1, h⟩ | ⟨c1, h⟩
  · simp only [Option.some.injEq] at h
    subst h
    exact tollwaylaw11_TagChecks_0 s_0 c1
  · obtain ⟨r2, h3, h⟩ := bind_some h
    obtain ⟨r4, h5, h⟩ := bind_some h
    obtain ⟨r6, h7, h⟩ := bind_some h
    obtain ⟨r8, h9, h⟩ := bind_some h
    obtain ⟨r10, h11, h⟩ := bind_some h
    obtain ⟨r12, h13, h⟩ := bind_some h
    rcases ite_some h with ⟨c14, h⟩ | ⟨c14, h⟩
    · rcases ite_some h with ⟨c15, h⟩ | ⟨c15, h⟩
      · rcases ite_some h with ⟨c16, h⟩ | ⟨c16, h⟩
        · rcases ite_some h with ⟨c17, h⟩ | ⟨c17, h⟩
          · rcases ite_some h with ⟨c18, h⟩ | ⟨c18, h⟩
            · obtain ⟨r19, h20, h⟩ := bind_some h
              simp only [Option.some.injEq] at h
              subst h
              exact tollwaylaw11_TagChecks_1 s_0 c1 r2 h3 r4 h5 r6 h7 r8 h9 r10 h11 r12 h13 c14 c15 c16 c17 c18 r19 h20
            · simp only [Option.some.injEq] at h
              subst h
              exact tollwaylaw11_TagChecks_2 s_0 c1 r2 h3 r4 h5 r6 h7 r8 h9 r10 h11 r12 h13 c14 c15 c16 c17 c18
          · simp only [Option.some.injEq] at h
            subst h
            exact tollwaylaw11_TagChecks_3 s_0 c1 r2 h3 r4 h5 r6 h7 r8 h9 r10 h11 r12 h13 c14 c15 c16 c17
        · simp only [Option.some.injEq] at h
          subst h
          exact tollwaylaw11_TagChecks_4 s_0 c1 r2 h3 r4 h5 r6 h7 r8 h9 r10 h11 r12 h13 c14 c15 c16
      · simp only [Option.some.injEq] at h
        subst h
        exact tollwaylaw11_TagChecks_5 s_0 c1 r2 h3 r4 h5 r6 h7 r8 h9 r10 h11 r12 h13 c14 c15
    · simp only [Option.some.injEq] at h
      subst h
      exact tollwaylaw11_TagChecks_6 s_0 c1 r2 h3 r4 h5 r6 h7 r8 h9 r10 h11 r12 h13 c14
end Go.Proofs.YtalobodhbbkgdaaDoor.Av
