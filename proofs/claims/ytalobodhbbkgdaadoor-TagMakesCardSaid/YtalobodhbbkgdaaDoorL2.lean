import Derived.Test.YtalobodhbbkgdaaDoorAvX
import Derived.Test.YtalobodhbbkgdaaDoorProg
import Derived.Tactics
import Derived.Test.YtalobodhbbkgdaaDoorT2
import Derived.Test.YtalobodhbbkgdaaDoorTA
set_option linter.unusedVariables false
set_option linter.unusedSimpArgs false
set_option maxHeartbeats 4000000
namespace Go.Proofs.YtalobodhbbkgdaaDoor.Av
open Go Go.Proofs
noncomputable def tollwaylaw11_TagStates (l_0 : (List Tapi_TagState)) (s_1 : (List UInt8)) (t_2 : Int) : Option Bool :=
  if (↑l_0.length : Int) > (100 : Int) then
    some true
  else
    if (↑s_1.length : Int) > (100 : Int) then
      some true
    else
      (tag_State l_0 s_1 t_2).bind fun r3 =>
      (tollwayref11_State l_0 s_1 t_2).bind fun r5 =>
      if r3 = r5 then
        (tollwaylaw11_alive).bind fun r8 =>
        some r8
      else
        some false
theorem tollwaylaw11_TagStates_0 (l_0 : (List Tapi_TagState)) (s_1 : (List UInt8)) (t_2 : Int) (c1 : (↑l_0.length : Int) > (100 : Int)) : Ret Tryd.prog GT 6 [.lst (fl Tapi_TagState.enc l_0) l_0.length, .str s_1, .int .i64 t_2] (.bool true) [] :=
  Ret.of_view 400 (cs 3 ((.op none .a) :: (.op none .c) :: (.op (some true) .c) :: (cs 3 [.br true, .op none .c]))) [] (ps := [((decide ((↑l_0.length : Int) > (100 : Int))) = true), (true = true)]) (by kernel_rfl) (by kernel_rfl) ⟨(decide_eq_true c1), ok1 rfl⟩
theorem tollwaylaw11_TagStates_1 (l_0 : (List Tapi_TagState)) (s_1 : (List UInt8)) (t_2 : Int) (c1 : ¬ ((↑l_0.length : Int) > (100 : Int))) (c2 : (↑s_1.length : Int) > (100 : Int)) : Ret Tryd.prog GT 6 [.lst (fl Tapi_TagState.enc l_0) l_0.length, .str s_1, .int .i64 t_2] (.bool true) [] :=
  Ret.of_view 400 (cs 3 [.op none .a, .op none .c, .op (some false) .c, .op none .c, .op none .a, .op none .c, .br true, .op none .c]) [] (ps := [((decide ((↑l_0.length : Int) > (100 : Int))) = false), ((decide ((↑s_1.length : Int) > (100 : Int))) = true)]) (by kernel_rfl) (by kernel_rfl) ⟨(decide_eq_false c1), ok1 (decide_eq_true c2)⟩
theorem tollwaylaw11_TagStates_2 (l_0 : (List Tapi_TagState)) (s_1 : (List UInt8)) (t_2 : Int) (c1 : ¬ ((↑l_0.length : Int) > (100 : Int))) (c2 : ¬ ((↑s_1.length : Int) > (100 : Int))) (r3 : Int) (h4 : tag_State l_0 s_1 t_2 = some r3) (r5 : Int) (h6 : tollwayref11_State l_0 s_1 t_2 = some r5) (c7 : r3 = r5) (r8 : Bool) (h9 : tollwaylaw11_alive = some r8) : Ret Tryd.prog GT 6 [.lst (fl Tapi_TagState.enc l_0) l_0.length, .str s_1, .int .i64 t_2] (.bool r8) [] :=
  Ret.of_view 400 (cs 3 ((.op none .a) :: (.op none .c) :: (.op (some false) .c) :: (.op none .c) :: (.op none .a) :: (.op none .c) :: (.br false) :: (cs 3 ((.ret none [.lst (fl Tapi_TagState.enc l_0) l_0.length, .str s_1, .int .i64 t_2] (.int .i64 r3) []) :: (cs 3 ((.ret none [.lst (fl Tapi_TagState.enc l_0) l_0.length, .str s_1, .int .i64 t_2] (.int .i64 r5) []) :: (.op none .a) :: (.op none .c) :: (.ret (some true) [] (.bool r8) []) :: (cs 2 []))))))) [] (ps := [((decide ((↑l_0.length : Int) > (100 : Int))) = false), ((decide ((↑s_1.length : Int) > (100 : Int))) = false), ((.lst (fl Tapi_TagState.enc l_0) l_0.length : AV) = .lst (fl Tapi_TagState.enc l_0) l_0.length), ((.str s_1 : AV) = .str s_1), ((.int .i64 t_2 : AV) = .int .i64 t_2), (Ret Tryd.prog GT 16 [.lst (fl Tapi_TagState.enc l_0) l_0.length, .str s_1, .int .i64 t_2] (.int .i64 r3) []), ((.lst (fl Tapi_TagState.enc l_0) l_0.length : AV) = .lst (fl Tapi_TagState.enc l_0) l_0.length), ((.str s_1 : AV) = .str s_1), ((.int .i64 t_2 : AV) = .int .i64 t_2), (Ret Tryd.prog GT 17 [.lst (fl Tapi_TagState.enc l_0) l_0.length, .str s_1, .int .i64 t_2] (.int .i64 r5) []), ((r3 == r5) = true), (Ret Tryd.prog GT 13 [] (.bool r8) [])]) (by kernel_rfl) (by kernel_rfl) ⟨(decide_eq_false c1), (decide_eq_false c2), rfl, rfl, rfl, (tag_State_ret l_0 s_1 t_2 r3 h4), rfl, rfl, rfl, (tollwayref11_State_ret l_0 s_1 t_2 r5 h6), (beq_t c7), ok1 (tollwaylaw11_alive_ret r8 h9)⟩
theorem tollwaylaw11_TagStates_3 (l_0 : (List Tapi_TagState)) (s_1 : (List UInt8)) (t_2 : Int) (c1 : ¬ ((↑l_0.length : Int) > (100 : Int))) (c2 : ¬ ((↑s_1.length : Int) > (100 : Int))) (r3 : Int) (h4 : tag_State l_0 s_1 t_2 = some r3) (r5 : Int) (h6 : tollwayref11_State l_0 s_1 t_2 = some r5) (c7 : ¬ (r3 = r5)) : Ret Tryd.prog GT 6 [.lst (fl Tapi_TagState.enc l_0) l_0.length, .str s_1, .int .i64 t_2] (.bool false) [] :=
  Ret.of_view 400 (cs 3 ((.op none .a) :: (.op none .c) :: (.op (some false) .c) :: (.op none .c) :: (.op none .a) :: (.op none .c) :: (.br false) :: (cs 3 ((.ret none [.lst (fl Tapi_TagState.enc l_0) l_0.length, .str s_1, .int .i64 t_2] (.int .i64 r3) []) :: (cs 3 ((.ret none [.lst (fl Tapi_TagState.enc l_0) l_0.length, .str s_1, .int .i64 t_2] (.int .i64 r5) []) :: (.op none .a) :: (.op none .c) :: (.op (some false) .c) :: (cs 2 []))))))) [] (ps := [((decide ((↑l_0.length : Int) > (100 : Int))) = false), ((decide ((↑s_1.length : Int) > (100 : Int))) = false), ((.lst (fl Tapi_TagState.enc l_0) l_0.length : AV) = .lst (fl Tapi_TagState.enc l_0) l_0.length), ((.str s_1 : AV) = .str s_1), ((.int .i64 t_2 : AV) = .int .i64 t_2), (Ret Tryd.prog GT 16 [.lst (fl Tapi_TagState.enc l_0) l_0.length, .str s_1, .int .i64 t_2] (.int .i64 r3) []), ((.lst (fl Tapi_TagState.enc l_0) l_0.length : AV) = .lst (fl Tapi_TagState.enc l_0) l_0.length), ((.str s_1 : AV) = .str s_1), ((.int .i64 t_2 : AV) = .int .i64 t_2), (Ret Tryd.prog GT 17 [.lst (fl Tapi_TagState.enc l_0) l_0.length, .str s_1, .int .i64 t_2] (.int .i64 r5) []), ((r3 == r5) = false)]) (by kernel_rfl) (by kernel_rfl) ⟨(decide_eq_false c1), (decide_eq_false c2), rfl, rfl, rfl, (tag_State_ret l_0 s_1 t_2 r3 h4), rfl, rfl, rfl, (tollwayref11_State_ret l_0 s_1 t_2 r5 h6), ok1 (beq_f c7)⟩
theorem tollwaylaw11_TagStates_ret (l_0 : (List Tapi_TagState)) (s_1 : (List UInt8)) (t_2 : Int) (r : Bool) (h : tollwaylaw11_TagStates l_0 s_1 t_2 = some r) : Ret Tryd.prog GT 6 [.lst (fl Tapi_TagState.enc l_0) l_0.length, .str s_1, .int .i64 t_2] (.bool r) [] := by
  unfold tollwaylaw11_TagStates at h
  rcases ite_some h with ⟨c1, h⟩ | ⟨c1, h⟩
  · simp only [Option.some.injEq] at h
    subst h
    exact tollwaylaw11_TagStates_0 l_0 s_1 t_2 c1
  · rcases ite_some h with ⟨c2, h⟩ | ⟨c2, h⟩
    · simp only [Option.some.injEq] at h
      subst h
      exact tollwaylaw11_TagStates_1 l_0 s_1 t_2 c1 c2
    · obtain ⟨r3, h4, h⟩ := bind_some h
      obtain ⟨r5, h6, h⟩ := bind_some h
      rcases ite_some h with ⟨c7, h⟩ | ⟨c7, h⟩
      · obtain ⟨r8, h9, h⟩ := bind_some h
        simp only [Option.some.injEq] at h
        subst h
        exact tollwaylaw11_TagStates_2 l_0 s_1 t_2 c1 c2 r3 h4 r5 h6 c7 r8 h9
      · simp only [Option.some.injEq] at h
        subst h
        exact tollwaylaw11_TagStates_3 l_0 s_1 t_2 c1 c2 r3 h4 r5 h6 c7
end Go.Proofs.YtalobodhbbkgdaaDoor.Av
