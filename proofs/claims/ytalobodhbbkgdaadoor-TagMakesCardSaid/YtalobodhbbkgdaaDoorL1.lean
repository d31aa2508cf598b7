import Derived.Test.YtalobodhbbkgdaaDoorAvX
import Derived.Test.YtalobodhbbkgdaaDoorProg
import Derived.Tactics
import Derived.Test.YtalobodhbbkgdaaDoorT2
import Derived.Test.YtalobodhbbkgdaaDoorTA
set_option linter.unusedVariables false
set_option linter.unusedSimpArgs false
set_option maxHeartbeats 4000000
namespace Go.Proofs.YtalobodhbbkgdaaDoor.Av
open Go Go.Proofs
noncomputable def tollwaylaw11_TagLists (l_0 : (List Tapi_TagState)) : Option Bool :=
  if (↑l_0.length : Int) > (100 : Int) then
    some true
  else
    (tag_CheckAll l_0).bind fun r2 =>
    (tollwayref11_CheckAll l_0).bind fun r4 =>
    if r2 = r4 then
      (tollwaylaw11_alive).bind fun r7 =>
      some r7
    else
      some false
theorem tollwaylaw11_TagLists_0 (l_0 : (List Tapi_TagState)) (c1 : (↑l_0.length : Int) > (100 : Int)) : Ret Tryd.prog GT 4 [.lst (fl Tapi_TagState.enc l_0) l_0.length] (.bool true) [] :=
  Ret.of_view 400 (cs 3 [.op none .a, .br true, .op none .c]) [] (ps := [((decide ((↑l_0.length : Int) > (100 : Int))) = true)]) (by kernel_rfl) (by kernel_rfl) (ok1 (decide_eq_true c1))
theorem tollwaylaw11_TagLists_1 (l_0 : (List Tapi_TagState)) (c1 : ¬ ((↑l_0.length : Int) > (100 : Int))) (r2 : Int) (h3 : tag_CheckAll l_0 = some r2) (r4 : Int) (h5 : tollwayref11_CheckAll l_0 = some r4) (c6 : r2 = r4) (r7 : Bool) (h8 : tollwaylaw11_alive = some r7) : Ret Tryd.prog GT 4 [.lst (fl Tapi_TagState.enc l_0) l_0.length] (.bool r7) [] :=
  Ret.of_view 400 (cs 3 ((.op none .a) :: (.br false) :: (.op none .c) :: (.ret none [.lst (fl Tapi_TagState.enc l_0) l_0.length] (.int .i64 r2) []) :: (.op none .c) :: (.ret none [.lst (fl Tapi_TagState.enc l_0) l_0.length] (.int .i64 r4) []) :: (.op none .a) :: (.op none .c) :: (.ret (some true) [] (.bool r7) []) :: (cs 2 []))) [] (ps := [((decide ((↑l_0.length : Int) > (100 : Int))) = false), ((.lst (fl Tapi_TagState.enc l_0) l_0.length : AV) = .lst (fl Tapi_TagState.enc l_0) l_0.length), (Ret Tryd.prog GT 14 [.lst (fl Tapi_TagState.enc l_0) l_0.length] (.int .i64 r2) []), ((.lst (fl Tapi_TagState.enc l_0) l_0.length : AV) = .lst (fl Tapi_TagState.enc l_0) l_0.length), (Ret Tryd.prog GT 15 [.lst (fl Tapi_TagState.enc l_0) l_0.length] (.int .i64 r4) []), ((r2 == r4) = true), (Ret Tryd.prog GT 13 [] (.bool r7) [])]) (by kernel_rfl) (by kernel_rfl) ⟨(decide_eq_false c1), rfl, (tag_CheckAll_ret l_0 r2 h3), rfl, (tollwayref11_CheckAll_ret l_0 r4 h5), (beq_t c6), ok1 (tollwaylaw11_alive_ret r7 h8)⟩
theorem tollwaylaw11_TagLists_2 (l_0 : (List Tapi_TagState)) (c1 : ¬ ((↑l_0.length : Int) > (100 : Int))) (r2 : Int) (h3 : tag_CheckAll l_0 = some r2) (r4 : Int) (h5 : tollwayref11_CheckAll l_0 = some r4) (c6 : ¬ (r2 = r4)) : Ret Tryd.prog GT 4 [.lst (fl Tapi_TagState.enc l_0) l_0.length] (.bool false) [] :=
  Ret.of_view 400 (cs 3 ((.op none .a) :: (.br false) :: (.op none .c) :: (.ret none [.lst (fl Tapi_TagState.enc l_0) l_0.length] (.int .i64 r2) []) :: (.op none .c) :: (.ret none [.lst (fl Tapi_TagState.enc l_0) l_0.length] (.int .i64 r4) []) :: (.op none .a) :: (.op none .c) :: (.op (some false) .c) :: (cs 2 []))) [] (ps := [((decide ((↑l_0.length : Int) > (100 : Int))) = false), ((.lst (fl Tapi_TagState.enc l_0) l_0.length : AV) = .lst (fl Tapi_TagState.enc l_0) l_0.length), (Ret Tryd.prog GT 14 [.lst (fl Tapi_TagState.enc l_0) l_0.length] (.int .i64 r2) []), ((.lst (fl Tapi_TagState.enc l_0) l_0.length : AV) = .lst (fl Tapi_TagState.enc l_0) l_0.length), (Ret Tryd.prog GT 15 [.lst (fl Tapi_TagState.enc l_0) l_0.length] (.int .i64 r4) []), ((r2 == r4) = false)]) (by kernel_rfl) (by kernel_rfl) ⟨(decide_eq_false c1), rfl, (tag_CheckAll_ret l_0 r2 h3), rfl, (tollwayref11_CheckAll_ret l_0 r4 h5), ok1 (beq_f c6)⟩
theorem tollwaylaw11_TagLists_ret (l_0 : (List Tapi_TagState)) (r : Bool) (h : tollwaylaw11_TagLists l_0 = some r) : Ret Tryd.prog GT 4 [.lst (fl Tapi_TagState.enc l_0) l_0.length] (.bool r) [] := by
  unfold tollwaylaw11_TagLists at h
  rcases ite_some h with ⟨c1, h⟩ | ⟨c1, h⟩
  · simp only [Option.some.injEq] at h
    subst h
    exact tollwaylaw11_TagLists_0 l_0 c1
  · obtain ⟨r2, h3, h⟩ := bind_some h
    obtain ⟨r4, h5, h⟩ := bind_some h
    rcases ite_some h with ⟨c6, h⟩ | ⟨c6, h⟩
    · obtain ⟨r7, h8, h⟩ := bind_some h
      simp only [Option.some.injEq] at h
      subst h
      exact tollwaylaw11_TagLists_1 l_0 c1 r2 h3 r4 h5 c6 r7 h8
    · simp only [Option.some.injEq] at h
      subst h
      exact tollwaylaw11_TagLists_2 l_0 c1 r2 h3 r4 h5 c6
end Go.Proofs.YtalobodhbbkgdaaDoor.Av
