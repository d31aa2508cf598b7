import Derived.Test.YtalobodhbbkgdaaDoorAvX
import Derived.Test.YtalobodhbbkgdaaDoorProg
import Derived.Tactics
import Derived.Test.YtalobodhbbkgdaaDoorT2
import Derived.Test.YtalobodhbbkgdaaDoorTA
set_option linter.unusedVariables false
set_option linter.unusedSimpArgs false
set_option maxHeartbeats 4000000
namespace Go.Proofs.YtalobodhbbkgdaaDoor.Av
open Go Go.Proofs
noncomputable def tollwaylaw11_TagMakes (agency_0 : (List UInt8)) (serial_1 : Int) : Option Bool :=
  if (↑agency_0.length : Int) > (100 : Int) then
    some true
  else
    (tag_Make agency_0 serial_1).bind fun r2 =>
    (tollwayref11_Make agency_0 serial_1).bind fun r4 =>
    if r2.1 = r4.1 then
      if r2.2 = r4.2 then
        (tollwaylaw11_alive).bind fun r8 =>
        some r8
      else
        some false
    else
      some false
theorem tollwaylaw11_TagMakes_0 (agency_0 : (List UInt8)) (serial_1 : Int) (c1 : (↑agency_0.length : Int) > (100 : Int)) : Ret Tryd.prog GT 3 [.str agency_0, .int .i64 serial_1] (.bool true) [] :=
  Ret.of_view 400 (cs 3 [.op none .a, .br true, .op none .c]) [] (ps := [((decide ((↑agency_0.length : Int) > (100 : Int))) = true)]) (by kernel_rfl) (by kernel_rfl) (ok1 (decide_eq_true c1))
theorem tollwaylaw11_TagMakes_1 (agency_0 : (List UInt8)) (serial_1 : Int) (c1 : ¬ ((↑agency_0.length : Int) > (100 : Int))) (r2 : ((List UInt8) × Int)) (h3 : tag_Make agency_0 serial_1 = some r2) (r4 : ((List UInt8) × Int)) (h5 : tollwayref11_Make agency_0 serial_1 = some r4) (c6 : r2.1 = r4.1) (c7 : r2.2 = r4.2) (r8 : Bool) (h9 : tollwaylaw11_alive = some r8) : Ret Tryd.prog GT 3 [.str agency_0, .int .i64 serial_1] (.bool r8) [] :=
  Ret.of_view 400 (cs 3 ((.op none .a) :: (.br false) :: (cs 2 ((.ret none [.str agency_0, .int .i64 serial_1] (.tup [.str r2.1, .int .i64 r2.2]) []) :: (cs 7 ((.ret none [.str agency_0, .int .i64 serial_1] (.tup [.str r4.1, .int .i64 r4.2]) []) :: (cs 7 ((.op none .a) :: (.op none .c) :: (.op (some true) .c) :: (.op none .c) :: (.op none .a) :: (cs 2 ((.ret (some true) [] (.bool r8) []) :: (cs 2 []))))))))))) [] (ps := [((decide ((↑agency_0.length : Int) > (100 : Int))) = false), ((.str agency_0 : AV) = .str agency_0), ((.int .i64 serial_1 : AV) = .int .i64 serial_1), (Ret Tryd.prog GT 11 [.str agency_0, .int .i64 serial_1] (.tup [.str r2.1, .int .i64 r2.2]) []), ((.str agency_0 : AV) = .str agency_0), ((.int .i64 serial_1 : AV) = .int .i64 serial_1), (Ret Tryd.prog GT 12 [.str agency_0, .int .i64 serial_1] (.tup [.str r4.1, .int .i64 r4.2]) []), ((r2.1 == r4.1) = true), ((r2.2 == r4.2) = true), (Ret Tryd.prog GT 13 [] (.bool r8) [])]) (by kernel_rfl) (by kernel_rfl) ⟨(decide_eq_false c1), rfl, rfl, (tag_Make_ret agency_0 serial_1 r2 h3), rfl, rfl, (tollwayref11_Make_ret agency_0 serial_1 r4 h5), (beq_t c6), (beq_t c7), ok1 (tollwaylaw11_alive_ret r8 h9)⟩
theorem tollwaylaw11_TagMakes_2 (agency_0 : (List UInt8)) (serial_1 : Int) (c1 : ¬ ((↑agency_0.length : Int) > (100 : Int))) (r2 : ((List UInt8) × Int)) (h3 : tag_Make agency_0 serial_1 = some r2) (r4 : ((List UInt8) × Int)) (h5 : tollwayref11_Make agency_0 serial_1 = some r4) (c6 : r2.1 = r4.1) (c7 : ¬ (r2.2 = r4.2)) : Ret Tryd.prog GT 3 [.str agency_0, .int .i64 serial_1] (.bool false) [] :=
  Ret.of_view 400 (cs 3 ((.op none .a) :: (.br false) :: (cs 2 ((.ret none [.str agency_0, .int .i64 serial_1] (.tup [.str r2.1, .int .i64 r2.2]) []) :: (cs 7 ((.ret none [.str agency_0, .int .i64 serial_1] (.tup [.str r4.1, .int .i64 r4.2]) []) :: (cs 7 ((.op none .a) :: (.op none .c) :: (.op (some true) .c) :: (.op none .c) :: (.op none .a) :: (cs 2 ((.op (some false) .c) :: (cs 2 []))))))))))) [] (ps := [((decide ((↑agency_0.length : Int) > (100 : Int))) = false), ((.str agency_0 : AV) = .str agency_0), ((.int .i64 serial_1 : AV) = .int .i64 serial_1), (Ret Tryd.prog GT 11 [.str agency_0, .int .i64 serial_1] (.tup [.str r2.1, .int .i64 r2.2]) []), ((.str agency_0 : AV) = .str agency_0), ((.int .i64 serial_1 : AV) = .int .i64 serial_1), (Ret Tryd.prog GT 12 [.str agency_0, .int .i64 serial_1] (.tup [.str r4.1, .int .i64 r4.2]) []), ((r2.1 == r4.1) = true), ((r2.2 == r4.2) = false)]) (by kernel_rfl) (by kernel_rfl) ⟨(decide_eq_false c1), rfl, rfl, (tag_Make_ret agency_0 serial_1 r2 h3), rfl, rfl, (tollwayref11_Make_ret agency_0 serial_1 r4 h5), (beq_t c6), ok1 (beq_f c7)⟩
theorem tollwaylaw11_TagMakes_3 (agency_0 : (List UInt8)) (serial_1 : Int) (c1 : ¬ ((↑agency_0.length : Int) > (100 : Int))) (r2 : ((List UInt8) × Int)) (h3 : tag_Make agency_0 serial_1 = some r2) (r4 : ((List UInt8) × Int)) (h5 : tollwayref11_Make agency_0 serial_1 = some r4) (c6 : ¬ (r2.1 = r4.1)) : Ret Tryd.prog GT 3 [.str agency_0, .int .i64 serial_1] (.bool false) [] :=
  Ret.of_view 400 (cs 3 ((.op none .a) :: (.br false) :: (cs 2 ((.ret none [.str agency_0, .int .i64 serial_1] (.tup [.str r2.1, .int .i64 r2.2]) []) :: (cs 7 ((.ret none [.str agency_0, .int .i64 serial_1] (.tup [.str r4.1, .int .i64 r4.2]) []) :: (cs 7 ((.op none .a) :: (.op none .c) :: (.op (some false) .c) :: (cs 7 []))))))))) [] (ps := [((decide ((↑agency_0.length : Int) > (100 : Int))) = false), ((.str agency_0 : AV) = .str agency_0), ((.int .i64 serial_1 : AV) = .int .i64 serial_1), (Ret Tryd.prog GT 11 [.str agency_0, .int .i64 serial_1] (.tup [.str r2.1, .int .i64 r2.2]) []), ((.str agency_0 : AV) = .str agency_0), ((.int .i64 serial_1 : AV) = .int .i64 serial_1), (Ret Tryd.prog GT 12 [.str agency_0, .int .i64 serial_1] (.tup [.str r4.1, .int .i64 r4.2]) []), ((r2.1 == r4.1) = false)]) (by kernel_rfl) (by kernel_rfl) ⟨(decide_eq_false c1), rfl, rfl, (tag_Make_ret agency_0 serial_1 r2 h3), rfl, rfl, (tollwayref11_Make_ret agency_0 serial_1 r4 h5), ok1 (beq_f c6)⟩
theorem tollwaylaw11_TagMakes_ret (agency_0 : (List UInt8)) (serial_1 : Int) (r : Bool) (h : tollwaylaw11_TagMakes agency_0 serial_1 = some r) : Ret Tryd.prog GT 3 [.str agency_0, .int .i64 serial_1] (.bool r) [] := by
  unfold tollwaylaw11_TagMakes at h
  rcases ite_some h with ⟨c1, h⟩ | ⟨c1, h⟩
  · simp only [Option.some.injEq] at h
    subst h
    exact tollwaylaw11_TagMakes_0 agency_0 serial_1 c1
  · obtain ⟨r2, h3, h⟩ := bind_some h
    obtain ⟨r4, h5, h⟩ := bind_some h
    rcases ite_some h with ⟨c6, h⟩ | ⟨c6, h⟩
    · rcases ite_some h with ⟨c7, h⟩ | ⟨c7, h⟩
      · obtain ⟨r8, h9, h⟩ := bind_some h
        simp only [Option.some.injEq] at h
        subst h
        exact tollwaylaw11_TagMakes_1 agency_0 serial_1 c1 r2 h3 r4 h5 c6 c7 r8 h9
      · simp only [Option.some.injEq] at h
        subst h
        exact tollwaylaw11_TagMakes_2 agency_0 serial_1 c1 r2 h3 r4 h5 c6 c7
    · simp only [Option.some.injEq] at h
      subst h
      exact tollwaylaw11_TagMakes_3 agency_0 serial_1 c1 r2 h3 r4 h5 c6
end Go.Proofs.YtalobodhbbkgdaaDoor.Av
