import Derived.Test.YteljonodbkkckaaAvX
import Derived.Test.YteljonodbkkckaaProg
import Derived.Tactics
import Derived.Test.YteljonodbkkckaaAwk
import Derived.Test.YteljonodbkkckaaNoF
import Derived.Test.YteljonodbkkckaaD0
import Derived.Test.YteljonodbkkckaaDA
import Derived.Test.YteljonodbkkckaaD1
import Derived.Test.YteljonodbkkckaaD2
set_option linter.unusedVariables false
set_option linter.unusedSimpArgs false
set_option maxHeartbeats 4000000
namespace Go.Proofs.Yteljonodbkkckaa.Av
open Go Go.Proofs
structure Tapi_Stop where
  Point : (List UInt8)
  Time : Int
  Passage : (List UInt8)
def Tapi_Stop.enc (x : Tapi_Stop) : List AV := [.str x.Point, .int .i64 x.Time, .str x.Passage]
structure Tapi_Trip where
  ID : (List UInt8)
  Vehicle : (List UInt8)
  System : (List UInt8)
  Class : Int
  Stops : (List Tapi_Stop)
def Tapi_Trip.enc (x : Tapi_Trip) : List AV := [.str x.ID, .str x.Vehicle, .str x.System, .int .i64 x.Class, .lst (fl Tapi_Stop.enc x.Stops) x.Stops.length]
noncomputable def clock_isTime (t_0 : Int) : Option Bool :=
  if t_0 ≥ (0 : Int) then
    some (decide (t_0 < (68719476736 : Int)))
  else
    some false
theorem clock_isTime_0 (t_0 : Int) (c1 : t_0 ≥ (0 : Int)) : Ret Try.prog G0 81 [.int .i64 t_0] (.bool (decide (t_0 < (68719476736 : Int)))) [] :=
  Ret.of_view 400 (cs 2 ((.op none .a) :: (.op none .c) :: (.op (some true) .c) :: (.op none .a) :: (cs 2 []))) [] (ps := [((decide (t_0 ≥ (0 : Int))) = true)]) (by kernel_rfl) (by kernel_rfl) (ok1 (decide_eq_true c1))
theorem clock_isTime_1 (t_0 : Int) (c1 : ¬ (t_0 ≥ (0 : Int))) : Ret Try.prog G0 81 [.int .i64 t_0] (.bool false) [] :=
  Ret.of_view 400 (cs 2 ((.op none .a) :: (.op none .c) :: (.op (some false) .c) :: (cs 3 []))) [] (ps := [((decide (t_0 ≥ (0 : Int))) = false)]) (by kernel_rfl) (by kernel_rfl) (ok1 (decide_eq_false c1))
theorem clock_isTime_ret (t_0 : Int) (r : Bool) (h : clock_isTime t_0 = some r) : Ret Try.prog G0 81 [.int .i64 t_0] (.bool r) [] := by
  unfold clock_isTime at h
  rcases ite_some h with ⟨c1, h⟩ | ⟨c1, h⟩
  · simp only [Option.some.injEq] at h
    subst h
    exact clock_isTime_0 t_0 c1
  · simp only [Option.some.injEq] at h
    subst h
    exact clock_isTime_1 t_0 c1
noncomputable def clock_valid (w_0 : Tapi_Window) : Option Bool :=
  if w_0.Days ≥ (1 : Int) then
    if w_0.Days ≤ (127 : Int) then
      if w_0.From ≥ (0 : Int) then
        if w_0.From < w_0.To then
          some (decide (w_0.To ≤ (1440 : Int)))
        else
          some false
      else
        some false
    else
      some false
  else
    some false
theorem clock_valid_0 (w_0 : Tapi_Window) (c1 : w_0.Days ≥ (1 : Int)) (c2 : w_0.Days ≤ (127 : Int)) (c3 : w_0.From ≥ (0 : Int)) (c4 : w_0.From < w_0.To) : Ret Try.prog G0 82 [.agg (Tapi_Window.enc w_0)] (.bool (decide (w_0.To ≤ (1440 : Int)))) [] :=
  Ret.of_view 400 (cs 4 ((.op none .a) :: (.op none .c) :: (.op (some true) .c) :: (.op none .c) :: (.op none .a) :: (cs 2 ((.op (some true) .c) :: (.op none .c) :: (.op none .a) :: (cs 2 ((.op (some true) .c) :: (cs 3 ((.op none .a) :: (cs 2 ((.op (some true) .c) :: (.op none .c) :: (.op none .a) :: (cs 2 []))))))))))) [] (ps := [((decide (w_0.Days ≥ (1 : Int))) = true), ((decide (w_0.Days ≤ (127 : Int))) = true), ((decide (w_0.From ≥ (0 : Int))) = true), ((decide (w_0.From < w_0.To)) = true)]) (by kernel_rfl) (by kernel_rfl) ⟨(decide_eq_true c1), (decide_eq_true c2), (decide_eq_true c3), ok1 (decide_eq_true c4)⟩
theorem clock_valid_1 (w_0 : Tapi_Window) (c1 : w_0.Days ≥ (1 : Int)) (c2 : w_0.Days ≤ (127 : Int)) (c3 : w_0.From ≥ (0 : Int)) (c4 : ¬ (w_0.From < w_0.To)) : Ret Try.prog G0 82 [.agg (Tapi_Window.enc w_0)] (.bool false) [] :=
  Ret.of_view 400 (cs 4 ((.op none .a) :: (.op none .c) :: (.op (some true) .c) :: (.op none .c) :: (.op none .a) :: (cs 2 ((.op (some true) .c) :: (.op none .c) :: (.op none .a) :: (cs 2 ((.op (some true) .c) :: (cs 3 ((.op none .a) :: (cs 2 ((.op (some false) .c) :: (cs 4 []))))))))))) [] (ps := [((decide (w_0.Days ≥ (1 : Int))) = true), ((decide (w_0.Days ≤ (127 : Int))) = true), ((decide (w_0.From ≥ (0 : Int))) = true), ((decide (w_0.From < w_0.To)) = false)]) (by kernel_rfl) (by kernel_rfl) ⟨(decide_eq_true c1), (decide_eq_true c2), (decide_eq_true c3), ok1 (decide_eq_false c4)⟩
theorem clock_valid_2 (w_0 : Tapi_Window) (c1 : w_0.Days ≥ (1 : Int)) (c2 : w_0.Days ≤ (127 : Int)) (c3 : ¬ (w_0.From ≥ (0 : Int))) : Ret Try.prog G0 82 [.agg (Tapi_Window.enc w_0)] (.bool false) [] :=
  Ret.of_view 400 (cs 4 ((.op none .a) :: (.op none .c) :: (.op (some true) .c) :: (.op none .c) :: (.op none .a) :: (cs 2 ((.op (some true) .c) :: (.op none .c) :: (.op none .a) :: (cs 2 ((.op (some false) .c) :: (cs 11 []))))))) [] (ps := [((decide (w_0.Days ≥ (1 : Int))) = true), ((decide (w_0.Days ≤ (127 : Int))) = true), ((decide (w_0.From ≥ (0 : Int))) = false)]) (by kernel_rfl) (by kernel_rfl) ⟨(decide_eq_true c1), (decide_eq_true c2), ok1 (decide_eq_false c3)⟩
theorem clock_valid_3 (w_0 : Tapi_Window) (c1 : w_0.Days ≥ (1 : Int)) (c2 : ¬ (w_0.Days ≤ (127 : Int))) : Ret Try.prog G0 82 [.agg (Tapi_Window.enc w_0)] (.bool false) [] :=
  Ret.of_view 400 (cs 4 ((.op none .a) :: (.op none .c) :: (.op (some true) .c) :: (.op none .c) :: (.op none .a) :: (cs 2 ((.op (some false) .c) :: (cs 16 []))))) [] (ps := [((decide (w_0.Days ≥ (1 : Int))) = true), ((decide (w_0.Days ≤ (127 : Int))) = false)]) (by kernel_rfl) (by kernel_rfl) ⟨(decide_eq_true c1), ok1 (decide_eq_false c2)⟩
theorem clock_valid_4 (w_0 : Tapi_Window) (c1 : ¬ (w_0.Days ≥ (1 : Int))) : Ret Try.prog G0 82 [.agg (Tapi_Window.enc w_0)] (.bool false) [] :=
  Ret.of_view 400 (cs 4 ((.op none .a) :: (.op none .c) :: (.op (some false) .c) :: (cs 21 []))) [] (ps := [((decide (w_0.Days ≥ (1 : Int))) = false)]) (by kernel_rfl) (by kernel_rfl) (ok1 (decide_eq_false c1))
theorem clock_valid_ret (w_0 : Tapi_Window) (r : Bool) (h : clock_valid w_0 = some r) : Ret Try.prog G0 82 [.agg (Tapi_Window.enc w_0)] (.bool r) [] := by
  unfold clock_valid at h
  rcases ite_some h with ⟨c1, h⟩ | ⟨c1, h⟩
  · rcases ite_some h with ⟨c2, h⟩ | ⟨c2, h⟩
    · rcases ite_some h with ⟨c3, h⟩ | ⟨c3, h⟩
      · rcases ite_some h with ⟨c4, h⟩ | ⟨c4, h⟩
        · simp only [Option.some.injEq] at h
          subst h
          exact clock_valid_0 w_0 c1 c2 c3 c4
        · simp only [Option.some.injEq] at h
          subst h
          exact clock_valid_1 w_0 c1 c2 c3 c4
      · simp only [Option.some.injEq] at h
        subst h
        exact clock_valid_2 w_0 c1 c2 c3
    · simp only [Option.some.injEq] at h
      subst h
      exact clock_valid_3 w_0 c1 c2
  · simp only [Option.some.injEq] at h
    subst h
    exact clock_valid_4 w_0 c1
noncomputable def clock_on (w_0 : Tapi_Window) (d_1 : Int) : Option Bool :=
  if (0 : Int) ≤ (Int.tmod d_1 7) then
    (some (Int.fdiv w_0.Days (2 ^ (min (Int.toNat (Int.tmod d_1 7)) (IntKind.bits .i64))))).bind fun y2 =>
    (some (IntKind.wrap .i64 ((BitVec.ofInt (IntKind.bits .i64) y2 &&& BitVec.ofInt (IntKind.bits .i64) 1).toNat : Int))).bind fun y4 =>
    some (y4 == (1 : Int))
  else none
theorem clock_on_0 (w_0 : Tapi_Window) (d_1 : Int) (h1 : (0 : Int) ≤ (Int.tmod d_1 7)) (y2 : Int) (h3 : some (Int.fdiv w_0.Days (2 ^ (min (Int.toNat (Int.tmod d_1 7)) (IntKind.bits .i64)))) = some y2) (y4 : Int) (h5 : some (IntKind.wrap .i64 ((BitVec.ofInt (IntKind.bits .i64) y2 &&& BitVec.ofInt (IntKind.bits .i64) 1).toNat : Int)) = some y4) : Ret Try.prog G0 83 [.agg (Tapi_Window.enc w_0), .int .i64 d_1] (.bool (y4 == (1 : Int))) [] :=
  Ret.of_view 400 (cs 5 [.op none .a, .op none .a, .tr (.eqt (.t 9) (.int .i64 y2)), .op none .a, .tr (.eqt (.t 10) (.int .i64 y4)), .op none .a, .op none .c]) [] (ps := [(7 ≠ (0 : Int)), ((0 : Int) ≤ (Int.tmod d_1 7)), ((.int .i64 (Int.fdiv w_0.Days (2 ^ (min (Int.toNat (Int.tmod d_1 7)) (IntKind.bits .i64)))) : AV) = .int .i64 y2), ((.int .i64 (IntKind.wrap .i64 ((BitVec.ofInt (IntKind.bits .i64) y2 &&& BitVec.ofInt (IntKind.bits .i64) 1).toNat : Int)) : AV) = .int .i64 y4)]) (by kernel_rfl) (by kernel_rfl) ⟨(by decide), h1, (congrArg _ (Option.some.inj h3)), ok1 (congrArg _ (Option.some.inj h5))⟩
theorem clock_on_ret (w_0 : Tapi_Window) (d_1 : Int) (r : Bool) (h : clock_on w_0 d_1 = some r) : Ret Try.prog G0 83 [.agg (Tapi_Window.enc w_0), .int .i64 d_1] (.bool r) [] := by
  unfold clock_on at h
  obtain ⟨h1, h⟩ := guard_some h
  obtain ⟨y2, h3, h⟩ := bind_some h
  obtain ⟨y4, h5, h⟩ := bind_some h
  simp only [Option.some.injEq] at h
  subst h
  exact clock_on_0 w_0 d_1 h1 y2 h3 y4 h5
noncomputable def clock_Minute (t_0 : Int) : Option Int :=
  (clock_isTime t_0).bind fun r1 =>
  if r1 = true then
    if InR .i64 (Int.tdiv (Int.tmod t_0 86400) 60) then
      some (Int.tdiv (Int.tmod t_0 86400) 60)
    else none
  else
    some (-1)
theorem clock_Minute_0 (t_0 : Int) (r1 : Bool) (h2 : clock_isTime t_0 = some r1) (c3 : r1 = true) (h4 : InR .i64 (Int.tdiv (Int.tmod t_0 86400) 60)) : Ret Try.prog G0 84 [.int .i64 t_0] (.int .i64 (Int.tdiv (Int.tmod t_0 86400) 60)) [] :=
  Ret.of_view 400 (cs 2 [.ret none [.int .i64 t_0] (.bool r1) [], .op none .c, .br false, .op none .c, .op none .a, .op none .w, .op none .c]) [] (ps := [((.int .i64 t_0 : AV) = .int .i64 t_0), (Ret Try.prog G0 81 [.int .i64 t_0] (.bool r1) []), ((!r1) = false), (86400 ≠ (0 : Int)), (60 ≠ (0 : Int)), (IntKind.min .i64 ≤ (Int.tdiv (Int.tmod t_0 86400) 60) ∧ (Int.tdiv (Int.tmod t_0 86400) 60) ≤ IntKind.max .i64)]) (by kernel_rfl) (by kernel_rfl) ⟨rfl, (clock_isTime_ret t_0 r1 h2), (not_f c3), (by decide), (by decide), ok1 h4⟩
theorem clock_Minute_1 (t_0 : Int) (r1 : Bool) (h2 : clock_isTime t_0 = some r1) (c3 : ¬ (r1 = true)) : Ret Try.prog G0 84 [.int .i64 t_0] (.int .i64 (-1)) [] :=
  Ret.of_view 400 (cs 2 [.ret none [.int .i64 t_0] (.bool r1) [], .op none .c, .br true, .op none .c]) [] (ps := [((.int .i64 t_0 : AV) = .int .i64 t_0), (Ret Try.prog G0 81 [.int .i64 t_0] (.bool r1) []), ((!r1) = true)]) (by kernel_rfl) (by kernel_rfl) ⟨rfl, (clock_isTime_ret t_0 r1 h2), ok1 (not_t (eq_false_of_ne_true c3))⟩
theorem clock_Minute_ret (t_0 : Int) (r : Int) (h : clock_Minute t_0 = some r) : Ret Try.prog G0 84 [.int .i64 t_0] (.int .i64 r) [] := by
  unfold clock_Minute at h
  obtain ⟨r1, h2, h⟩ := bind_some h
  rcases ite_some h with ⟨c3, h⟩ | ⟨c3, h⟩
  · obtain ⟨h4, h⟩ := guard_some h
    simp only [Option.some.injEq] at h
    subst h
    exact clock_Minute_0 t_0 r1 h2 c3 h4
  · simp only [Option.some.injEq] at h
    subst h
    exact clock_Minute_1 t_0 r1 h2 c3
noncomputable def clock_In (w_0 : Tapi_Window) (t_1 : Int) : Option Bool :=
  (clock_isTime t_1).bind fun r1 =>
  if r1 = true then
    (clock_valid w_0).bind fun r4 =>
    if r4 = true then
      if InR .i64 (Int.tdiv t_1 86400) then
        (clock_on w_0 (Int.tdiv t_1 86400)).bind fun r8 =>
        if r8 = true then
          (clock_Minute t_1).bind fun r11 =>
          if r11 ≥ w_0.From then
            some (decide (r11 < w_0.To))
          else
            some false
        else
          some false
      else none
    else
      some false
  else
    some false
theorem clock_In_0 (w_0 : Tapi_Window) (t_1 : Int) (r1 : Bool) (h2 : clock_isTime t_1 = some r1) (c3 : r1 = true) (r4 : Bool) (h5 : clock_valid w_0 = some r4) (c6 : r4 = true) (h7 : InR .i64 (Int.tdiv t_1 86400)) (r8 : Bool) (h9 : clock_on w_0 (Int.tdiv t_1 86400) = some r8) (c10 : r8 = true) (r11 : Int) (h12 : clock_Minute t_1 = some r11) (c13 : r11 ≥ w_0.From) : Ret Try.prog G0 57 [.agg (Tapi_Window.enc w_0), .int .i64 t_1] (.bool (decide (r11 < w_0.To))) [] :=
  Ret.of_view 400 (cs 3 ((.ret none [.int .i64 t_1] (.bool r1) []) :: (cs 2 ((.op (some false) .c) :: (.ret none [.agg (Tapi_Window.enc w_0)] (.bool r4) []) :: (cs 3 ((.op (some false) .c) :: (.op none .c) :: (.op none .w) :: (.ret none [.agg (Tapi_Window.enc w_0), .int .i64 (Int.tdiv t_1 86400)] (.bool r8) []) :: (cs 2 ((.br false) :: (.op none .c) :: (.ret none [.int .i64 t_1] (.int .i64 r11) []) :: (cs 4 ((.op none .a) :: (.op none .c) :: (.op (some true) .c) :: (cs 2 ((.op none .a) :: (cs 2 []))))))))))))) [] (ps := [((.int .i64 t_1 : AV) = .int .i64 t_1), (Ret Try.prog G0 81 [.int .i64 t_1] (.bool r1) []), ((!r1) = false), ((.agg (Tapi_Window.enc w_0) : AV) = .agg (Tapi_Window.enc w_0)), (Ret Try.prog G0 82 [.agg (Tapi_Window.enc w_0)] (.bool r4) []), ((!r4) = false), (86400 ≠ (0 : Int)), (IntKind.min .i64 ≤ (Int.tdiv t_1 86400) ∧ (Int.tdiv t_1 86400) ≤ IntKind.max .i64), ((.agg (Tapi_Window.enc w_0) : AV) = .agg (Tapi_Window.enc w_0)), ((.int .i64 (Int.tdiv t_1 86400) : AV) = .int .i64 (Int.tdiv t_1 86400)), (Ret Try.prog G0 83 [.agg (Tapi_Window.enc w_0), .int .i64 (Int.tdiv t_1 86400)] (.bool r8) []), ((!r8) = false), ((.int .i64 t_1 : AV) = .int .i64 t_1), (Ret Try.prog G0 84 [.int .i64 t_1] (.int .i64 r11) []), ((decide (r11 ≥ w_0.From)) = true)]) (by kernel_rfl) (by kernel_rfl) ⟨rfl, (clock_isTime_ret t_1 r1 h2), (not_f c3), rfl, (clock_valid_ret w_0 r4 h5), (not_f c6), (by decide), h7, rfl, rfl, (clock_on_ret w_0 (Int.tdiv t_1 86400) r8 h9), (not_f c10), rfl, (clock_Minute_ret t_1 r11 h12), ok1 (decide_eq_true c13)⟩
theorem clock_In_1 (w_0 : Tapi_Window) (t_1 : Int) (r1 : Bool) (h2 : clock_isTime t_1 = some r1) (c3 : r1 = true) (r4 : Bool) (h5 : clock_valid w_0 = some r4) (c6 : r4 = true) (h7 : InR .i64 (Int.tdiv t_1 86400)) (r8 : Bool) (h9 : clock_on w_0 (Int.tdiv t_1 86400) = some r8) (c10 : r8 = true) (r11 : Int) (h12 : clock_Minute t_1 = some r11) (c13 : ¬ (r11 ≥ w_0.From)) : Ret Try.prog G0 57 [.agg (Tapi_Window.enc w_0), .int .i64 t_1] (.bool false) [] :=
  Ret.of_view 400 (cs 3 ((.ret none [.int .i64 t_1] (.bool r1) []) :: (cs 2 ((.op (some false) .c) :: (.ret none [.agg (Tapi_Window.enc w_0)] (.bool r4) []) :: (cs 3 ((.op (some false) .c) :: (.op none .c) :: (.op none .w) :: (.ret none [.agg (Tapi_Window.enc w_0), .int .i64 (Int.tdiv t_1 86400)] (.bool r8) []) :: (cs 2 ((.br false) :: (.op none .c) :: (.ret none [.int .i64 t_1] (.int .i64 r11) []) :: (cs 4 ((.op none .a) :: (.op none .c) :: (.op (some false) .c) :: (cs 5 []))))))))))) [] (ps := [((.int .i64 t_1 : AV) = .int .i64 t_1), (Ret Try.prog G0 81 [.int .i64 t_1] (.bool r1) []), ((!r1) = false), ((.agg (Tapi_Window.enc w_0) : AV) = .agg (Tapi_Window.enc w_0)), (Ret Try.prog G0 82 [.agg (Tapi_Window.enc w_0)] (.bool r4) []), ((!r4) = false), (86400 ≠ (0 : Int)), (IntKind.min .i64 ≤ (Int.tdiv t_1 86400) ∧ (Int.tdiv t_1 86400) ≤ IntKind.max .i64), ((.agg (Tapi_Window.enc w_0) : AV) = .agg (Tapi_Window.enc w_0)), ((.int .i64 (Int.tdiv t_1 86400) : AV) = .int .i64 (Int.tdiv t_1 86400)), (Ret Try.prog G0 83 [.agg (Tapi_Window.enc w_0), .int .i64 (Int.tdiv t_1 86400)] (.bool r8) []), ((!r8) = false), ((.int .i64 t_1 : AV) = .int .i64 t_1), (Ret Try.prog G0 84 [.int .i64 t_1] (.int .i64 r11) []), ((decide (r11 ≥ w_0.From)) = false)]) (by kernel_rfl) (by kernel_rfl) ⟨rfl, (clock_isTime_ret t_1 r1 h2), (not_f c3), rfl, (clock_valid_ret w_0 r4 h5), (not_f c6), (by decide), h7, rfl, rfl, (clock_on_ret w_0 (Int.tdiv t_1 86400) r8 h9), (not_f c10), rfl, (clock_Minute_ret t_1 r11 h12), ok1 (decide_eq_false c13)⟩
theorem clock_In_2 (w_0 : Tapi_Window) (t_1 : Int) (r1 : Bool) (h2 : clock_isTime t_1 = some r1) (c3 : r1 = true) (r4 : Bool) (h5 : clock_valid w_0 = some r4) (c6 : r4 = true) (h7 : InR .i64 (Int.tdiv t_1 86400)) (r8 : Bool) (h9 : clock_on w_0 (Int.tdiv t_1 86400) = some r8) (c10 : ¬ (r8 = true)) : Ret Try.prog G0 57 [.agg (Tapi_Window.enc w_0), .int .i64 t_1] (.bool false) [] :=
  Ret.of_view 400 (cs 3 ((.ret none [.int .i64 t_1] (.bool r1) []) :: (cs 2 ((.op (some false) .c) :: (.ret none [.agg (Tapi_Window.enc w_0)] (.bool r4) []) :: (cs 3 ((.op (some false) .c) :: (.op none .c) :: (.op none .w) :: (.ret none [.agg (Tapi_Window.enc w_0), .int .i64 (Int.tdiv t_1 86400)] (.bool r8) []) :: (cs 2 [.br true, .op none .c]))))))) [] (ps := [((.int .i64 t_1 : AV) = .int .i64 t_1), (Ret Try.prog G0 81 [.int .i64 t_1] (.bool r1) []), ((!r1) = false), ((.agg (Tapi_Window.enc w_0) : AV) = .agg (Tapi_Window.enc w_0)), (Ret Try.prog G0 82 [.agg (Tapi_Window.enc w_0)] (.bool r4) []), ((!r4) = false), (86400 ≠ (0 : Int)), (IntKind.min .i64 ≤ (Int.tdiv t_1 86400) ∧ (Int.tdiv t_1 86400) ≤ IntKind.max .i64), ((.agg (Tapi_Window.enc w_0) : AV) = .agg (Tapi_Window.enc w_0)), ((.int .i64 (Int.tdiv t_1 86400) : AV) = .int .i64 (Int.tdiv t_1 86400)), (Ret Try.prog G0 83 [.agg (Tapi_Window.enc w_0), .int .i64 (Int.tdiv t_1 86400)] (.bool r8) []), ((!r8) = true)]) (by kernel_rfl) (by kernel_rfl) ⟨rfl, (clock_isTime_ret t_1 r1 h2), (not_f c3), rfl, (clock_valid_ret w_0 r4 h5), (not_f c6), (by decide), h7, rfl, rfl, (clock_on_ret w_0 (Int.tdiv t_1 86400) r8 h9), ok1 (not_t (eq_false_of_ne_true c10))⟩
theorem clock_In_3 (w_0 : Tapi_Window) (t_1 : Int) (r1 : Bool) (h2 : clock_isTime t_1 = some r1) (c3 : r1 = true) (r4 : Bool) (h5 : clock_valid w_0 = some r4) (c6 : ¬ (r4 = true)) : Ret Try.prog G0 57 [.agg (Tapi_Window.enc w_0), .int .i64 t_1] (.bool false) [] :=
  Ret.of_view 400 (cs 3 ((.ret none [.int .i64 t_1] (.bool r1) []) :: (cs 2 ((.op (some false) .c) :: (.ret none [.agg (Tapi_Window.enc w_0)] (.bool r4) []) :: (cs 3 ((.op (some true) .c) :: (cs 5 [.br true, .op none .c]))))))) [] (ps := [((.int .i64 t_1 : AV) = .int .i64 t_1), (Ret Try.prog G0 81 [.int .i64 t_1] (.bool r1) []), ((!r1) = false), ((.agg (Tapi_Window.enc w_0) : AV) = .agg (Tapi_Window.enc w_0)), (Ret Try.prog G0 82 [.agg (Tapi_Window.enc w_0)] (.bool r4) []), ((!r4) = true), (true = true)]) (by kernel_rfl) (by kernel_rfl) ⟨rfl, (clock_isTime_ret t_1 r1 h2), (not_f c3), rfl, (clock_valid_ret w_0 r4 h5), (not_t (eq_false_of_ne_true c6)), ok1 rfl⟩
theorem clock_In_4 (w_0 : Tapi_Window) (t_1 : Int) (r1 : Bool) (h2 : clock_isTime t_1 = some r1) (c3 : ¬ (r1 = true)) : Ret Try.prog G0 57 [.agg (Tapi_Window.enc w_0), .int .i64 t_1] (.bool false) [] :=
  Ret.of_view 400 (cs 3 ((.ret none [.int .i64 t_1] (.bool r1) []) :: (cs 2 ((.op (some true) .c) :: (cs 10 [.br true, .op none .c]))))) [] (ps := [((.int .i64 t_1 : AV) = .int .i64 t_1), (Ret Try.prog G0 81 [.int .i64 t_1] (.bool r1) []), ((!r1) = true), (true = true)]) (by kernel_rfl) (by kernel_rfl) ⟨rfl, (clock_isTime_ret t_1 r1 h2), (not_t (eq_false_of_ne_true c3)), ok1 rfl⟩
theorem clock_In_ret (w_0 : Tapi_Window) (t_1 : Int) (r : Bool) (h : clock_In w_0 t_1 = some r) : Ret Try.prog G0 57 [.agg (Tapi_Window.enc w_0), .int .i64 t_1] (.bool r) [] := by
  unfold clock_In at h
  obtain ⟨r1, h2, h⟩ := bind_some h
  rcases ite_some h with ⟨c3, h⟩ | ⟨c3, h⟩
  · obtain ⟨r4, h5, h⟩ := bind_some h
    rcases ite_some h with ⟨c6, h⟩ | ⟨c6, h⟩
    · obtain ⟨h7, h⟩ := guard_some h
      obtain ⟨r8, h9, h⟩ := bind_some h
      rcases ite_some h with ⟨c10, h⟩ | ⟨c10, h⟩
      · obtain ⟨r11, h12, h⟩ := bind_some h
        rcases ite_some h with ⟨c13, h⟩ | ⟨c13, h⟩
        · simp only [Option.some.injEq] at h
          subst h
          exact clock_In_0 w_0 t_1 r1 h2 c3 r4 h5 c6 h7 r8 h9 c10 r11 h12 c13
        · simp only [Option.some.injEq] at h
          subst h
          exact clock_In_1 w_0 t_1 r1 h2 c3 r4 h5 c6 h7 r8 h9 c10 r11 h12 c13
      · simp only [Option.some.injEq] at h
        subst h
        exact clock_In_2 w_0 t_1 r1 h2 c3 r4 h5 c6 h7 r8 h9 c10
    · simp only [Option.some.injEq] at h
      subst h
      exact clock_In_3 w_0 t_1 r1 h2 c3 r4 h5 c6
  · simp only [Option.some.injEq] at h
    subst h
    exact clock_In_4 w_0 t_1 r1 h2 c3
noncomputable def tollwayref04_IsTime (t_0 : Int) : Option Bool :=
  if t_0 ≥ (0 : Int) then
    some (decide (t_0 < (68719476736 : Int)))
  else
    some false
theorem tollwayref04_IsTime_0 (t_0 : Int) (c1 : t_0 ≥ (0 : Int)) : Ret Try.prog G0 85 [.int .i64 t_0] (.bool (decide (t_0 < (68719476736 : Int)))) [] :=
  Ret.of_view 400 (cs 2 ((.op none .a) :: (.op none .c) :: (.op (some true) .c) :: (.op none .a) :: (cs 2 []))) [] (ps := [((decide (t_0 ≥ (0 : Int))) = true)]) (by kernel_rfl) (by kernel_rfl) (ok1 (decide_eq_true c1))
theorem tollwayref04_IsTime_1 (t_0 : Int) (c1 : ¬ (t_0 ≥ (0 : Int))) : Ret Try.prog G0 85 [.int .i64 t_0] (.bool false) [] :=
  Ret.of_view 400 (cs 2 ((.op none .a) :: (.op none .c) :: (.op (some false) .c) :: (cs 3 []))) [] (ps := [((decide (t_0 ≥ (0 : Int))) = false)]) (by kernel_rfl) (by kernel_rfl) (ok1 (decide_eq_false c1))
theorem tollwayref04_IsTime_ret (t_0 : Int) (r : Bool) (h : tollwayref04_IsTime t_0 = some r) : Ret Try.prog G0 85 [.int .i64 t_0] (.bool r) [] := by
  unfold tollwayref04_IsTime at h
  rcases ite_some h with ⟨c1, h⟩ | ⟨c1, h⟩
  · simp only [Option.some.injEq] at h
    subst h
    exact tollwayref04_IsTime_0 t_0 c1
  · simp only [Option.some.injEq] at h
    subst h
    exact tollwayref04_IsTime_1 t_0 c1
noncomputable def tollwayref04_set_L1_step (k_1 : Int) : (Int × Nat) → Option ((Int × Nat) ⊕ Int)
  | (v0, k5) =>
    if (↑k5 : Int) < k_1 then
      if InR .i64 (Int.tdiv v0 2) then
        if InR .i64 ((↑k5 : Int) + 1) then
          some (Sum.inl ((Int.tdiv v0 2), (k5 + 1)))
        else none
      else none
    else
      some (Sum.inr v0)
def tollwayref04_set_L1_H (k_1 : Int) : (Int × Nat) → St := fun (s : (Int × Nat)) => S 16 [(0, .int .i64 s.1), (1, .int .i64 k_1), (5, .int .i64 (↑s.2 : Int))] []
theorem tollwayref04_set_L1_0 (k_1 : Int) (v0 : Int) (k5 : Nat) (c5 : (↑k5 : Int) < k_1) (h6 : InR .i64 (Int.tdiv v0 2)) (h7 : InR .i64 ((↑k5 : Int) + 1)) : Does Try.prog G0 0 (bodyAt Try.prog 86 [1, 0, 1, 0, 0]) (tollwayref04_set_L1_H k_1 (v0, k5)) .normal (S 16 [(0, .int .i64 (Int.tdiv v0 2)), (1, .int .i64 k_1), (5, .int .i64 ((↑k5 : Int) + 1))] []) :=
  Does.of_viewM 0 400 (cs 2 ((.op none .a) :: (.br true) :: (.op none .c) :: (.op none .w) :: (cs 2 [.op none .w, .op none .c]))) [] (ps := [((decide ((↑k5 : Int) < k_1)) = true), (2 ≠ (0 : Int)), (IntKind.min .i64 ≤ (Int.tdiv v0 2) ∧ (Int.tdiv v0 2) ≤ IntKind.max .i64), (IntKind.min .i64 ≤ ((↑k5 : Int) + 1) ∧ ((↑k5 : Int) + 1) ≤ IntKind.max .i64)]) (by kernel_rfl) (by kernel_rfl) ⟨(decide_eq_true c5), (by decide), h6, ok1 h7⟩
theorem tollwayref04_set_L1_1 (k_1 : Int) (v0 : Int) (k5 : Nat) (c5 : ¬ ((↑k5 : Int) < k_1)) : Does Try.prog G0 0 (bodyAt Try.prog 86 [1, 0, 1, 0, 0]) (tollwayref04_set_L1_H k_1 (v0, k5)) (.exit 0) (S 16 [(0, .int .i64 v0)] []) :=
  Does.of_viewM 0 400 (cs 2 [.op none .a, .br false]) [] (ps := [((decide ((↑k5 : Int) < k_1)) = false)]) (by kernel_rfl) (by kernel_rfl) (ok1 (decide_eq_false c5))
def tollwayref04_set_L1_X (k_1 : Int) : Int → AEx := fun o => (.exit 0)
def tollwayref04_set_L1_E (k_1 : Int) : Int → St := fun o => S 16 [(0, .int .i64 o)] []
theorem tollwayref04_set_L1_does (k_1 : Int) {s : (Int × Nat)} {r : Int} (h : lp (tollwayref04_set_L1_step k_1) s = some r) : Does Try.prog G0 0 (.loop (bodyAt Try.prog 86 [1, 0, 1, 0, 0])) (tollwayref04_set_L1_H k_1 s) (tollwayref04_set_L1_X k_1 r) (tollwayref04_set_L1_E k_1 r) := by
  refine Does.lp (H := tollwayref04_set_L1_H k_1) (X := tollwayref04_set_L1_X k_1) (E := tollwayref04_set_L1_E k_1) (fun s s2 h => ?_) (fun s r h => ?_) h
  · obtain ⟨v0, k5⟩ := s
    unfold tollwayref04_set_L1_step at h
    try dsimp only at h
    rcases ite_some h with ⟨c5, h⟩ | ⟨c5, h⟩
    · obtain ⟨h6, h⟩ := guard_some h
      obtain ⟨h7, h⟩ := guard_some h
      simp only [Option.some.injEq, Sum.inl.injEq] at h
      subst h
      exact tollwayref04_set_L1_0 k_1 v0 k5 c5 h6 h7
    · simp at h
  · obtain ⟨v0, k5⟩ := s
    unfold tollwayref04_set_L1_step at h
    try dsimp only at h
    rcases ite_some h with ⟨c5, h⟩ | ⟨c5, h⟩
    · obtain ⟨h6, h⟩ := guard_some h
      obtain ⟨h7, h⟩ := guard_some h
      simp at h
    · simp only [Option.some.injEq, Sum.inr.injEq] at h
      subst h
      exact ⟨tollwayref04_set_L1_1 k_1 v0 k5 c5, by intro q; cases q⟩
noncomputable def tollwayref04_set (days_0 : Int) (k_1 : Int) : Option Bool :=
  (lp (tollwayref04_set_L1_step k_1) (days_0, (0 : Nat))).bind fun o1 =>
  some ((Int.tmod o1 2) == (1 : Int))
theorem tollwayref04_set_0 (days_0 : Int) (k_1 : Int) (o1 : Int) (hl1 : lp (tollwayref04_set_L1_step k_1) (days_0, (0 : Nat)) = some o1) : Ret Try.prog G0 86 [.int .i64 days_0, .int .i64 k_1] (.bool ((Int.tmod o1 2) == (1 : Int))) [] :=
  Ret.of_view 400 (cs 2 [.fcut 0 (.exit 0) [(0, .int .i64 o1)] [] [] [(0, .int .i64 days_0), (1, .int .i64 k_1), (5, .int .i64 (↑(0 : Nat) : Int))] [], .op none .c, .op none .a, .op none .a, .op none .c]) [] (ps := [((.int .i64 days_0 : AV) = .int .i64 days_0), ((.int .i64 k_1 : AV) = .int .i64 k_1), ((.int .i64 0 : AV) = .int .i64 (↑(0 : Nat) : Int)), (Does Try.prog G0 0 (.loop (bodyAt Try.prog 86 [1, 0, 1, 0, 0])) (S 16 [(0, .int .i64 days_0), (1, .int .i64 k_1), (5, .int .i64 (↑(0 : Nat) : Int))] []) (.exit 0) (S 16 [(0, .int .i64 o1)] [])), (2 ≠ (0 : Int))]) (by kernel_rfl) (by kernel_rfl) ⟨rfl, rfl, rfl, (tollwayref04_set_L1_does k_1 hl1), ok1 (by decide)⟩
theorem tollwayref04_set_ret (days_0 : Int) (k_1 : Int) (r : Bool) (h : tollwayref04_set days_0 k_1 = some r) : Ret Try.prog G0 86 [.int .i64 days_0, .int .i64 k_1] (.bool r) [] := by
  unfold tollwayref04_set at h
  obtain ⟨o1, hl1, h⟩ := bind_some h
  simp only [Option.some.injEq] at h
  subst h
  exact tollwayref04_set_0 days_0 k_1 o1 hl1
noncomputable def tollwayref04_Minute (t_0 : Int) : Option Int :=
  (tollwayref04_IsTime t_0).bind fun r1 =>
  if r1 = true then
    if InR .i64 (Int.tdiv (Int.tmod t_0 86400) 60) then
      some (Int.tdiv (Int.tmod t_0 86400) 60)
    else none
  else
    some (-1)
theorem tollwayref04_Minute_0 (t_0 : Int) (r1 : Bool) (h2 : tollwayref04_IsTime t_0 = some r1) (c3 : r1 = true) (h4 : InR .i64 (Int.tdiv (Int.tmod t_0 86400) 60)) : Ret Try.prog G0 87 [.int .i64 t_0] (.int .i64 (Int.tdiv (Int.tmod t_0 86400) 60)) [] :=
  Ret.of_view 400 (cs 2 [.ret none [.int .i64 t_0] (.bool r1) [], .op none .c, .br false, .op none .c, .op none .a, .op none .w, .op none .c]) [] (ps := [((.int .i64 t_0 : AV) = .int .i64 t_0), (Ret Try.prog G0 85 [.int .i64 t_0] (.bool r1) []), ((!r1) = false), (86400 ≠ (0 : Int)), (60 ≠ (0 : Int)), (IntKind.min .i64 ≤ (Int.tdiv (Int.tmod t_0 86400) 60) ∧ (Int.tdiv (Int.tmod t_0 86400) 60) ≤ IntKind.max .i64)]) (by kernel_rfl) (by kernel_rfl) ⟨rfl, (tollwayref04_IsTime_ret t_0 r1 h2), (not_f c3), (by decide), (by decide), ok1 h4⟩
theorem tollwayref04_Minute_1 (t_0 : Int) (r1 : Bool) (h2 : tollwayref04_IsTime t_0 = some r1) (c3 : ¬ (r1 = true)) : Ret Try.prog G0 87 [.int .i64 t_0] (.int .i64 (-1)) [] :=
  Ret.of_view 400 (cs 2 [.ret none [.int .i64 t_0] (.bool r1) [], .op none .c, .br true, .op none .c]) [] (ps := [((.int .i64 t_0 : AV) = .int .i64 t_0), (Ret Try.prog G0 85 [.int .i64 t_0] (.bool r1) []), ((!r1) = true)]) (by kernel_rfl) (by kernel_rfl) ⟨rfl, (tollwayref04_IsTime_ret t_0 r1 h2), ok1 (not_t (eq_false_of_ne_true c3))⟩
theorem tollwayref04_Minute_ret (t_0 : Int) (r : Int) (h : tollwayref04_Minute t_0 = some r) : Ret Try.prog G0 87 [.int .i64 t_0] (.int .i64 r) [] := by
  unfold tollwayref04_Minute at h
  obtain ⟨r1, h2, h⟩ := bind_some h
  rcases ite_some h with ⟨c3, h⟩ | ⟨c3, h⟩
  · obtain ⟨h4, h⟩ := guard_some h
    simp only [Option.some.injEq] at h
    subst h
    exact tollwayref04_Minute_0 t_0 r1 h2 c3 h4
  · simp only [Option.some.injEq] at h
    subst h
    exact tollwayref04_Minute_1 t_0 r1 h2 c3
noncomputable def tollwayref04_In (w_0 : Tapi_Window) (t_1 : Int) : Option Bool :=
  (tollwayref04_ValidWindow w_0).bind fun r1 =>
  if r1 = true then
    (tollwayref04_IsTime t_1).bind fun r4 =>
    if r4 = true then
      if InR .i64 (Int.tdiv t_1 86400) then
        (tollwayref04_set w_0.Days (Int.tmod (Int.tdiv t_1 86400) 7)).bind fun r8 =>
        if r8 = true then
          (tollwayref04_Minute t_1).bind fun r11 =>
          if r11 ≥ w_0.From then
            (tollwayref04_Minute t_1).bind fun r14 =>
            some (decide (r14 < w_0.To))
          else
            some false
        else
          some false
      else none
    else
      some false
  else
    some false
theorem tollwayref04_In_0 (w_0 : Tapi_Window) (t_1 : Int) (r1 : Bool) (h2 : tollwayref04_ValidWindow w_0 = some r1) (c3 : r1 = true) (r4 : Bool) (h5 : tollwayref04_IsTime t_1 = some r4) (c6 : r4 = true) (h7 : InR .i64 (Int.tdiv t_1 86400)) (r8 : Bool) (h9 : tollwayref04_set w_0.Days (Int.tmod (Int.tdiv t_1 86400) 7) = some r8) (c10 : r8 = true) (r11 : Int) (h12 : tollwayref04_Minute t_1 = some r11) (c13 : r11 ≥ w_0.From) (r14 : Int) (h15 : tollwayref04_Minute t_1 = some r14) : Ret Try.prog G0 58 [.agg (Tapi_Window.enc w_0), .int .i64 t_1] (.bool (decide (r14 < w_0.To))) [] :=
  Ret.of_view 400 (cs 3 ((.ret none [.agg (Tapi_Window.enc w_0)] (.bool r1) []) :: (cs 2 ((.op (some false) .c) :: (.ret none [.int .i64 t_1] (.bool r4) []) :: (cs 2 ((.br false) :: (cs 3 [.op none .w, .op none .a, .ret none [.int .i64 w_0.Days, .int .i64 (Int.tmod (Int.tdiv t_1 86400) 7)] (.bool r8) [], .op none .c, .op (some true) .c, .ret (some true) [.int .i64 t_1] (.int .i64 r11) [], .op (some true) .c, .op (some true) .c, .op (some true) .a, .op none (.b true), .op none .c, .op (some true) .c, .ret (some true) [.int .i64 t_1] (.int .i64 r14) [], .op (some true) .c, .op (some true) .c, .op (some true) .a, .op none (.b true), .op none .c]))))))) [] (ps := [((.agg (Tapi_Window.enc w_0) : AV) = .agg (Tapi_Window.enc w_0)), (Ret Try.prog G0 53 [.agg (Tapi_Window.enc w_0)] (.bool r1) []), ((!r1) = false), ((.int .i64 t_1 : AV) = .int .i64 t_1), (Ret Try.prog G0 85 [.int .i64 t_1] (.bool r4) []), ((!r4) = false), (86400 ≠ (0 : Int)), (IntKind.min .i64 ≤ (Int.tdiv t_1 86400) ∧ (Int.tdiv t_1 86400) ≤ IntKind.max .i64), (7 ≠ (0 : Int)), ((.int .i64 w_0.Days : AV) = .int .i64 w_0.Days), ((.int .i64 (Int.tmod (Int.tdiv t_1 86400) 7) : AV) = .int .i64 (Int.tmod (Int.tdiv t_1 86400) 7)), (Ret Try.prog G0 86 [.int .i64 w_0.Days, .int .i64 (Int.tmod (Int.tdiv t_1 86400) 7)] (.bool r8) []), (r8 = true), (r8 = true), ((.int .i64 t_1 : AV) = .int .i64 t_1), (Ret Try.prog G0 87 [.int .i64 t_1] (.int .i64 r11) []), (r8 = true), (r8 = true), (r8 = true), (r8 = true), ((decide (r11 ≥ w_0.From)) = true), ((decide (r11 ≥ w_0.From)) = true), ((.int .i64 t_1 : AV) = .int .i64 t_1), (Ret Try.prog G0 87 [.int .i64 t_1] (.int .i64 r14) []), ((decide (r11 ≥ w_0.From)) = true), ((decide (r11 ≥ w_0.From)) = true), ((decide (r11 ≥ w_0.From)) = true), ((decide (r11 ≥ w_0.From)) = true)]) (by kernel_rfl) (by kernel_rfl) ⟨rfl, (tollwayref04_ValidWindow_ret w_0 r1 h2), (not_f c3), rfl, (tollwayref04_IsTime_ret t_1 r4 h5), (not_f c6), (by decide), h7, (by decide), rfl, rfl, (tollwayref04_set_ret w_0.Days (Int.tmod (Int.tdiv t_1 86400) 7) r8 h9), c10, c10, rfl, (tollwayref04_Minute_ret t_1 r11 h12), c10, c10, c10, c10, (decide_eq_true c13), (decide_eq_true c13), rfl, (tollwayref04_Minute_ret t_1 r14 h15), (decide_eq_true c13), (decide_eq_true c13), (decide_eq_true c13), ok1 (decide_eq_true c13)⟩
theorem tollwayref04_In_1 (w_0 : Tapi_Window) (t_1 : Int) (r1 : Bool) (h2 : tollwayref04_ValidWindow w_0 = some r1) (c3 : r1 = true) (r4 : Bool) (h5 : tollwayref04_IsTime t_1 = some r4) (c6 : r4 = true) (h7 : InR .i64 (Int.tdiv t_1 86400)) (r8 : Bool) (h9 : tollwayref04_set w_0.Days (Int.tmod (Int.tdiv t_1 86400) 7) = some r8) (c10 : r8 = true) (r11 : Int) (h12 : tollwayref04_Minute t_1 = some r11) (c13 : ¬ (r11 ≥ w_0.From)) : Ret Try.prog G0 58 [.agg (Tapi_Window.enc w_0), .int .i64 t_1] (.bool false) [] :=
  Ret.of_view 400 (cs 3 ((.ret none [.agg (Tapi_Window.enc w_0)] (.bool r1) []) :: (cs 2 ((.op (some false) .c) :: (.ret none [.int .i64 t_1] (.bool r4) []) :: (cs 2 ((.br false) :: (cs 3 [.op none .w, .op none .a, .ret none [.int .i64 w_0.Days, .int .i64 (Int.tmod (Int.tdiv t_1 86400) 7)] (.bool r8) [], .op none .c, .op (some true) .c, .ret (some true) [.int .i64 t_1] (.int .i64 r11) [], .op (some true) .c, .op (some true) .c, .op (some true) .a, .op none (.b true), .op none .c, .op (some false) .c, .op (some false) .c, .op (some false) .c, .op (some false) .c, .op (some false) .c, .op none (.b false), .op none .c]))))))) [] (ps := [((.agg (Tapi_Window.enc w_0) : AV) = .agg (Tapi_Window.enc w_0)), (Ret Try.prog G0 53 [.agg (Tapi_Window.enc w_0)] (.bool r1) []), ((!r1) = false), ((.int .i64 t_1 : AV) = .int .i64 t_1), (Ret Try.prog G0 85 [.int .i64 t_1] (.bool r4) []), ((!r4) = false), (86400 ≠ (0 : Int)), (IntKind.min .i64 ≤ (Int.tdiv t_1 86400) ∧ (Int.tdiv t_1 86400) ≤ IntKind.max .i64), (7 ≠ (0 : Int)), ((.int .i64 w_0.Days : AV) = .int .i64 w_0.Days), ((.int .i64 (Int.tmod (Int.tdiv t_1 86400) 7) : AV) = .int .i64 (Int.tmod (Int.tdiv t_1 86400) 7)), (Ret Try.prog G0 86 [.int .i64 w_0.Days, .int .i64 (Int.tmod (Int.tdiv t_1 86400) 7)] (.bool r8) []), (r8 = true), (r8 = true), ((.int .i64 t_1 : AV) = .int .i64 t_1), (Ret Try.prog G0 87 [.int .i64 t_1] (.int .i64 r11) []), (r8 = true), (r8 = true), (r8 = true), (r8 = true), ((decide (r11 ≥ w_0.From)) = false), ((decide (r11 ≥ w_0.From)) = false), ((decide (r11 ≥ w_0.From)) = false), ((decide (r11 ≥ w_0.From)) = false), ((decide (r11 ≥ w_0.From)) = false), ((decide (r11 ≥ w_0.From)) = false)]) (by kernel_rfl) (by kernel_rfl) ⟨rfl, (tollwayref04_ValidWindow_ret w_0 r1 h2), (not_f c3), rfl, (tollwayref04_IsTime_ret t_1 r4 h5), (not_f c6), (by decide), h7, (by decide), rfl, rfl, (tollwayref04_set_ret w_0.Days (Int.tmod (Int.tdiv t_1 86400) 7) r8 h9), c10, c10, rfl, (tollwayref04_Minute_ret t_1 r11 h12), c10, c10, c10, c10, (decide_eq_false c13), (decide_eq_false c13), (decide_eq_false c13), (decide_eq_false c13), (decide_eq_false c13), ok1 (decide_eq_false c13)⟩
theorem tollwayref04_In_2 (w_0 : Tapi_Window) (t_1 : Int) (r1 : Bool) (h2 : tollwayref04_ValidWindow w_0 = some r1) (c3 : r1 = true) (r4 : Bool) (h5 : tollwayref04_IsTime t_1 = some r4) (c6 : r4 = true) (h7 : InR .i64 (Int.tdiv t_1 86400)) (r8 : Bool) (h9 : tollwayref04_set w_0.Days (Int.tmod (Int.tdiv t_1 86400) 7) = some r8) (c10 : ¬ (r8 = true)) : Ret Try.prog G0 58 [.agg (Tapi_Window.enc w_0), .int .i64 t_1] (.bool false) [] :=
  Ret.of_view 400 (cs 3 ((.ret none [.agg (Tapi_Window.enc w_0)] (.bool r1) []) :: (cs 2 ((.op (some false) .c) :: (.ret none [.int .i64 t_1] (.bool r4) []) :: (cs 2 ((.br false) :: (cs 3 ((.op none .w) :: (.op none .a) :: (.ret none [.int .i64 w_0.Days, .int .i64 (Int.tmod (Int.tdiv t_1 86400) 7)] (.bool r8) []) :: (.op none .c) :: (.op (some false) .c) :: (.op (some false) .c) :: (.op (some false) .c) :: (.op (some false) .c) :: (.op (some false) .c) :: (.op none (.b false)) :: (cs 8 []))))))))) [] (ps := [((.agg (Tapi_Window.enc w_0) : AV) = .agg (Tapi_Window.enc w_0)), (Ret Try.prog G0 53 [.agg (Tapi_Window.enc w_0)] (.bool r1) []), ((!r1) = false), ((.int .i64 t_1 : AV) = .int .i64 t_1), (Ret Try.prog G0 85 [.int .i64 t_1] (.bool r4) []), ((!r4) = false), (86400 ≠ (0 : Int)), (IntKind.min .i64 ≤ (Int.tdiv t_1 86400) ∧ (Int.tdiv t_1 86400) ≤ IntKind.max .i64), (7 ≠ (0 : Int)), ((.int .i64 w_0.Days : AV) = .int .i64 w_0.Days), ((.int .i64 (Int.tmod (Int.tdiv t_1 86400) 7) : AV) = .int .i64 (Int.tmod (Int.tdiv t_1 86400) 7)), (Ret Try.prog G0 86 [.int .i64 w_0.Days, .int .i64 (Int.tmod (Int.tdiv t_1 86400) 7)] (.bool r8) []), (r8 = false), (r8 = false), (r8 = false), (r8 = false), (r8 = false), (r8 = false)]) (by kernel_rfl) (by kernel_rfl) ⟨rfl, (tollwayref04_ValidWindow_ret w_0 r1 h2), (not_f c3), rfl, (tollwayref04_IsTime_ret t_1 r4 h5), (not_f c6), (by decide), h7, (by decide), rfl, rfl, (tollwayref04_set_ret w_0.Days (Int.tmod (Int.tdiv t_1 86400) 7) r8 h9), (eq_false_of_ne_true c10), (eq_false_of_ne_true c10), (eq_false_of_ne_true c10), (eq_false_of_ne_true c10), (eq_false_of_ne_true c10), ok1 (eq_false_of_ne_true c10)⟩
theorem tollwayref04_In_3 (w_0 : Tapi_Window) (t_1 : Int) (r1 : Bool) (h2 : tollwayref04_ValidWindow w_0 = some r1) (c3 : r1 = true) (r4 : Bool) (h5 : tollwayref04_IsTime t_1 = some r4) (c6 : ¬ (r4 = true)) : Ret Try.prog G0 58 [.agg (Tapi_Window.enc w_0), .int .i64 t_1] (.bool false) [] :=
  Ret.of_view 400 (cs 3 ((.ret none [.agg (Tapi_Window.enc w_0)] (.bool r1) []) :: (cs 2 ((.op (some false) .c) :: (.ret none [.int .i64 t_1] (.bool r4) []) :: (cs 2 [.br true, .op none .c]))))) [] (ps := [((.agg (Tapi_Window.enc w_0) : AV) = .agg (Tapi_Window.enc w_0)), (Ret Try.prog G0 53 [.agg (Tapi_Window.enc w_0)] (.bool r1) []), ((!r1) = false), ((.int .i64 t_1 : AV) = .int .i64 t_1), (Ret Try.prog G0 85 [.int .i64 t_1] (.bool r4) []), ((!r4) = true)]) (by kernel_rfl) (by kernel_rfl) ⟨rfl, (tollwayref04_ValidWindow_ret w_0 r1 h2), (not_f c3), rfl, (tollwayref04_IsTime_ret t_1 r4 h5), ok1 (not_t (eq_false_of_ne_true c6))⟩
theorem tollwayref04_In_4 (w_0 : Tapi_Window) (t_1 : Int) (r1 : Bool) (h2 : tollwayref04_ValidWindow w_0 = some r1) (c3 : ¬ (r1 = true)) : Ret Try.prog G0 58 [.agg (Tapi_Window.enc w_0), .int .i64 t_1] (.bool false) [] :=
  Ret.of_view 400 (cs 3 ((.ret none [.agg (Tapi_Window.enc w_0)] (.bool r1) []) :: (cs 2 ((.op (some true) .c) :: (cs 3 [.br true, .op none .c]))))) [] (ps := [((.agg (Tapi_Window.enc w_0) : AV) = .agg (Tapi_Window.enc w_0)), (Ret Try.prog G0 53 [.agg (Tapi_Window.enc w_0)] (.bool r1) []), ((!r1) = true), (true = true)]) (by kernel_rfl) (by kernel_rfl) ⟨rfl, (tollwayref04_ValidWindow_ret w_0 r1 h2), (not_t (eq_false_of_ne_true c3)), ok1 rfl⟩
theorem tollwayref04_In_ret (w_0 : Tapi_Window) (t_1 : Int) (r : Bool) (h : tollwayref04_In w_0 t_1 = some r) : Ret Try.prog G0 58 [.agg (Tapi_Window.enc w_0), .int .i64 t_1] (.bool r) [] := by
  unfold tollwayref04_In at h
  obtain ⟨r1, h2, h⟩ := bind_some h
  rcases ite_some h with ⟨c3, h⟩ | ⟨c3, h⟩
  · obtain ⟨r4, h5, h⟩ := bind_some h
    rcases ite_some h with ⟨c6, h⟩ | ⟨c6, h⟩
    · obtain ⟨h7, h⟩ := guard_some h
      obtain ⟨r8, h9, h⟩ := bind_some h
      rcases ite_some h with ⟨c10, h⟩ | ⟨c10, h⟩
      · obtain ⟨r11, h12, h⟩ := bind_some h
        rcases ite_some h with ⟨c13, h⟩ | ⟨c13, h⟩
        · obtain ⟨r14, h15, h⟩ := bind_some h
          simp only [Option.some.injEq] at h
          subst h
          exact tollwayref04_In_0 w_0 t_1 r1 h2 c3 r4 h5 c6 h7 r8 h9 c10 r11 h12 c13 r14 h15
        · simp only [Option.some.injEq] at h
          subst h
          exact tollwayref04_In_1 w_0 t_1 r1 h2 c3 r4 h5 c6 h7 r8 h9 c10 r11 h12 c13
      · simp only [Option.some.injEq] at h
        subst h
        exact tollwayref04_In_2 w_0 t_1 r1 h2 c3 r4 h5 c6 h7 r8 h9 c10
    · simp only [Option.some.injEq] at h
      subst h
      exact tollwayref04_In_3 w_0 t_1 r1 h2 c3 r4 h5 c6
  · simp only [Option.some.injEq] at h
    subst h
    exact tollwayref04_In_4 w_0 t_1 r1 h2 c3
noncomputable def discount_Applies (d_0 : Tapi_Discount) (x_1 : Tapi_Trip) (earlier_2 : Int) : Option Bool :=
  (discount_Check d_0).bind fun r1 =>
  if r1 = (0 : Int) then
    if (↑x_1.Stops.length : Int) = (0 : Int) then
      some false
    else
      if earlier_2 < d_0.Least then
        some false
      else
        if d_0.System = [] then
          if d_0.Class = (0 : Int) then
            if d_0.Window.Days = (0 : Int) then
              some true
            else
              (x_1.Stops[0]?).bind fun x9 =>
              (clock_In d_0.Window x9.Time).bind fun r11 =>
              some r11
          else
            if d_0.Class = x_1.Class then
              if d_0.Window.Days = (0 : Int) then
                some true
              else
                (x_1.Stops[0]?).bind fun x15 =>
                (clock_In d_0.Window x15.Time).bind fun r17 =>
                some r17
            else
              some false
        else
          if d_0.System = x_1.System then
            if d_0.Class = (0 : Int) then
              if d_0.Window.Days = (0 : Int) then
                some true
              else
                (x_1.Stops[0]?).bind fun x22 =>
                (clock_In d_0.Window x22.Time).bind fun r24 =>
                some r24
            else
              if d_0.Class = x_1.Class then
                if d_0.Window.Days = (0 : Int) then
                  some true
                else
                  (x_1.Stops[0]?).bind fun x28 =>
                  (clock_In d_0.Window x28.Time).bind fun r30 =>
                  some r30
              else
                some false
          else
            some false
  else
    some false
theorem discount_Applies_0 (d_0 : Tapi_Discount) (x_1 : Tapi_Trip) (earlier_2 : Int) (r1 : Int) (h2 : discount_Check d_0 = some r1) (c3 : r1 = (0 : Int)) (c4 : (↑x_1.Stops.length : Int) = (0 : Int)) : Ret Try.prog G0 26 [.agg (Tapi_Discount.enc d_0), .agg (Tapi_Trip.enc x_1), .int .i64 earlier_2] (.bool false) [] :=
  Ret.of_view 400 (cs 4 ((.ret none [.agg (Tapi_Discount.enc d_0)] (.int .i64 r1) []) :: (.op none .a) :: (.op none .c) :: (.op (some false) .c) :: (cs 2 ((.op none .a) :: (cs 2 ((.op (some true) .c) :: (cs 4 [.br true, .op none .c]))))))) [] (ps := [((.agg (Tapi_Discount.enc d_0) : AV) = .agg (Tapi_Discount.enc d_0)), (Ret Try.prog G0 19 [.agg (Tapi_Discount.enc d_0)] (.int .i64 r1) []), ((!(r1 == (0 : Int))) = false), (((↑x_1.Stops.length : Int) == (0 : Int)) = true), (true = true)]) (by kernel_rfl) (by kernel_rfl) ⟨rfl, (discount_Check_ret d_0 r1 h2), (not_f (beq_t c3)), (beq_t c4), ok1 rfl⟩
theorem discount_Applies_1 (d_0 : Tapi_Discount) (x_1 : Tapi_Trip) (earlier_2 : Int) (r1 : Int) (h2 : discount_Check d_0 = some r1) (c3 : r1 = (0 : Int)) (c4 : ¬ ((↑x_1.Stops.length : Int) = (0 : Int))) (c5 : earlier_2 < d_0.Least) : Ret Try.prog G0 26 [.agg (Tapi_Discount.enc d_0), .agg (Tapi_Trip.enc x_1), .int .i64 earlier_2] (.bool false) [] :=
  Ret.of_view 400 (cs 4 ((.ret none [.agg (Tapi_Discount.enc d_0)] (.int .i64 r1) []) :: (.op none .a) :: (.op none .c) :: (.op (some false) .c) :: (cs 2 ((.op none .a) :: (cs 2 ((.op (some false) .c) :: (cs 2 [.op none .a, .op none .c, .br true, .op none .c]))))))) [] (ps := [((.agg (Tapi_Discount.enc d_0) : AV) = .agg (Tapi_Discount.enc d_0)), (Ret Try.prog G0 19 [.agg (Tapi_Discount.enc d_0)] (.int .i64 r1) []), ((!(r1 == (0 : Int))) = false), (((↑x_1.Stops.length : Int) == (0 : Int)) = false), ((decide (earlier_2 < d_0.Least)) = true)]) (by kernel_rfl) (by kernel_rfl) ⟨rfl, (discount_Check_ret d_0 r1 h2), (not_f (beq_t c3)), (beq_f c4), ok1 (decide_eq_true c5)⟩
theorem discount_Applies_2 (d_0 : Tapi_Discount) (x_1 : Tapi_Trip) (earlier_2 : Int) (r1 : Int) (h2 : discount_Check d_0 = some r1) (c3 : r1 = (0 : Int)) (c4 : ¬ ((↑x_1.Stops.length : Int) = (0 : Int))) (c5 : ¬ (earlier_2 < d_0.Least)) (c6 : d_0.System = []) (c7 : d_0.Class = (0 : Int)) (c8 : d_0.Window.Days = (0 : Int)) : Ret Try.prog G0 26 [.agg (Tapi_Discount.enc d_0), .agg (Tapi_Trip.enc x_1), .int .i64 earlier_2] (.bool true) [] :=
  Ret.of_view 400 (cs 4 ((.ret none [.agg (Tapi_Discount.enc d_0)] (.int .i64 r1) []) :: (.op none .a) :: (.op none .c) :: (.op (some false) .c) :: (cs 2 ((.op none .a) :: (cs 2 ((.op (some false) .c) :: (cs 2 ((.op none .a) :: (.op none .c) :: (.br false) :: (cs 2 ((.op none .a) :: (.op none .c) :: (.op (some false) .c) :: (cs 8 ((.op none .a) :: (.op none .c) :: (.op (some false) .c) :: (cs 6 ((.br false) :: (cs 3 [.op none .a, .op none .c, .op (some true) .c, .op (some true) .c, .op (some true) .c, .op (some true) .c, .op (some true) .c, .op (some true) .c, .op (some true) .c, .op (some true) .c, .op none (.b true), .op none .c]))))))))))))))) [] (ps := [((.agg (Tapi_Discount.enc d_0) : AV) = .agg (Tapi_Discount.enc d_0)), (Ret Try.prog G0 19 [.agg (Tapi_Discount.enc d_0)] (.int .i64 r1) []), ((!(r1 == (0 : Int))) = false), (((↑x_1.Stops.length : Int) == (0 : Int)) = false), ((decide (earlier_2 < d_0.Least)) = false), ((!(d_0.System == [])) = false), ((!(d_0.Class == (0 : Int))) = false), (false = false), ((d_0.Window.Days == (0 : Int)) = true), ((d_0.Window.Days == (0 : Int)) = true), ((d_0.Window.Days == (0 : Int)) = true), ((d_0.Window.Days == (0 : Int)) = true), ((d_0.Window.Days == (0 : Int)) = true), ((d_0.Window.Days == (0 : Int)) = true), ((d_0.Window.Days == (0 : Int)) = true), ((d_0.Window.Days == (0 : Int)) = true), ((d_0.Window.Days == (0 : Int)) = true)]) (by kernel_rfl) (by kernel_rfl) ⟨rfl, (discount_Check_ret d_0 r1 h2), (not_f (beq_t c3)), (beq_f c4), (decide_eq_false c5), (not_f (beq_t c6)), (not_f (beq_t c7)), rfl, (beq_t c8), (beq_t c8), (beq_t c8), (beq_t c8), (beq_t c8), (beq_t c8), (beq_t c8), (beq_t c8), ok1 (beq_t c8)⟩
theorem discount_Applies_3 (d_0 : Tapi_Discount) (x_1 : Tapi_Trip) (earlier_2 : Int) (r1 : Int) (h2 : discount_Check d_0 = some r1) (c3 : r1 = (0 : Int)) (c4 : ¬ ((↑x_1.Stops.length : Int) = (0 : Int))) (c5 : ¬ (earlier_2 < d_0.Least)) (c6 : d_0.System = []) (c7 : d_0.Class = (0 : Int)) (c8 : ¬ (d_0.Window.Days = (0 : Int))) (x9 : Tapi_Stop) (h10 : x_1.Stops[0]? = some x9) (r11 : Bool) (h12 : clock_In d_0.Window x9.Time = some r11) : Ret Try.prog G0 26 [.agg (Tapi_Discount.enc d_0), .agg (Tapi_Trip.enc x_1), .int .i64 earlier_2] (.bool r11) [] :=
  Ret.of_view 400 (cs 4 ((.ret none [.agg (Tapi_Discount.enc d_0)] (.int .i64 r1) []) :: (.op none .a) :: (.op none .c) :: (.op (some false) .c) :: (cs 2 ((.op none .a) :: (cs 2 ((.op (some false) .c) :: (cs 2 ((.op none .a) :: (.op none .c) :: (.br false) :: (cs 2 ((.op none .a) :: (.op none .c) :: (.op (some false) .c) :: (cs 8 ((.op none .a) :: (.op none .c) :: (.op (some false) .c) :: (cs 6 ((.br false) :: (cs 3 [.op none .a, .op none .c, .op (some false) .c, .op (some false) .c, .op (some false) .c, .op (some false) .c, .op (some false) (.i 0), .op (some false) .c, .op (some false) (.v [.int .i64 x9.Time]), .ret (some false) [.agg (Tapi_Window.enc d_0.Window), .int .i64 x9.Time] (.bool r11) [], .op none (.b false), .op none .c]))))))))))))))) [] (ps := [((.agg (Tapi_Discount.enc d_0) : AV) = .agg (Tapi_Discount.enc d_0)), (Ret Try.prog G0 19 [.agg (Tapi_Discount.enc d_0)] (.int .i64 r1) []), ((!(r1 == (0 : Int))) = false), (((↑x_1.Stops.length : Int) == (0 : Int)) = false), ((decide (earlier_2 < d_0.Least)) = false), ((!(d_0.System == [])) = false), ((!(d_0.Class == (0 : Int))) = false), (false = false), ((d_0.Window.Days == (0 : Int)) = false), ((d_0.Window.Days == (0 : Int)) = false), ((d_0.Window.Days == (0 : Int)) = false), ((d_0.Window.Days == (0 : Int)) = false), ((d_0.Window.Days == (0 : Int)) = false), ((0 : Int) = ((0 : Nat) : Int) ∧ 0 < x_1.Stops.length), ((fl Tapi_Stop.enc x_1.Stops) ≠ []), ((d_0.Window.Days == (0 : Int)) = false), ((d_0.Window.Days == (0 : Int)) = false), (sub (fl Tapi_Stop.enc x_1.Stops) 1 1 = [.int .i64 x9.Time]), ((d_0.Window.Days == (0 : Int)) = false), ((.agg (Tapi_Window.enc d_0.Window) : AV) = .agg (Tapi_Window.enc d_0.Window)), ((.int .i64 x9.Time : AV) = .int .i64 x9.Time), (Ret Try.prog G0 57 [.agg (Tapi_Window.enc d_0.Window), .int .i64 x9.Time] (.bool r11) []), ((d_0.Window.Days == (0 : Int)) = false)]) (by kernel_rfl) (by kernel_rfl) ⟨rfl, (discount_Check_ret d_0 r1 h2), (not_f (beq_t c3)), (beq_f c4), (decide_eq_false c5), (not_f (beq_t c6)), (not_f (beq_t c7)), rfl, (beq_f c8), (beq_f c8), (beq_f c8), (beq_f c8), (beq_f c8), ⟨rfl, get_lt h10⟩, (fl_ne (f := Tapi_Stop.enc) (z := 2) (fun _ => rfl) h10), (beq_f c8), (beq_f c8), (fl_sub (f := Tapi_Stop.enc) (z := 3) (j := 0) (a := 1) (n := 1) (fun _ => rfl) h10 (by decide) rfl), (beq_f c8), rfl, rfl, (clock_In_ret d_0.Window x9.Time r11 h12), ok1 (beq_f c8)⟩
theorem discount_Applies_4 (d_0 : Tapi_Discount) (x_1 : Tapi_Trip) (earlier_2 : Int) (r1 : Int) (h2 : discount_Check d_0 = some r1) (c3 : r1 = (0 : Int)) (c4 : ¬ ((↑x_1.Stops.length : Int) = (0 : Int))) (c5 : ¬ (earlier_2 < d_0.Least)) (c6 : d_0.System = []) (c7 : ¬ (d_0.Class = (0 : Int))) (c13 : d_0.Class = x_1.Class) (c14 : d_0.Window.Days = (0 : Int)) : Ret Try.prog G0 26 [.agg (Tapi_Discount.enc d_0), .agg (Tapi_Trip.enc x_1), .int .i64 earlier_2] (.bool true) [] :=
  Ret.of_view 400 (cs 4 ((.ret none [.agg (Tapi_Discount.enc d_0)] (.int .i64 r1) []) :: (.op none .a) :: (.op none .c) :: (.op (some false) .c) :: (cs 2 ((.op none .a) :: (cs 2 ((.op (some false) .c) :: (cs 2 ((.op none .a) :: (.op none .c) :: (.br false) :: (cs 2 ((.op none .a) :: (.op none .c) :: (.op (some false) .c) :: (cs 8 ((.op none .a) :: (.op none .c) :: (.op (some true) .c) :: (cs 3 ((.op none .a) :: (cs 2 ((.br false) :: (cs 3 [.op none .a, .op none .c, .op (some true) .c, .op (some true) .c, .op (some true) .c, .op (some true) .c, .op (some true) .c, .op (some true) .c, .op (some true) .c, .op (some true) .c, .op none (.b true), .op none .c]))))))))))))))))) [] (ps := [((.agg (Tapi_Discount.enc d_0) : AV) = .agg (Tapi_Discount.enc d_0)), (Ret Try.prog G0 19 [.agg (Tapi_Discount.enc d_0)] (.int .i64 r1) []), ((!(r1 == (0 : Int))) = false), (((↑x_1.Stops.length : Int) == (0 : Int)) = false), ((decide (earlier_2 < d_0.Least)) = false), ((!(d_0.System == [])) = false), ((!(d_0.Class == (0 : Int))) = true), ((!(d_0.Class == x_1.Class)) = false), ((d_0.Window.Days == (0 : Int)) = true), ((d_0.Window.Days == (0 : Int)) = true), ((d_0.Window.Days == (0 : Int)) = true), ((d_0.Window.Days == (0 : Int)) = true), ((d_0.Window.Days == (0 : Int)) = true), ((d_0.Window.Days == (0 : Int)) = true), ((d_0.Window.Days == (0 : Int)) = true), ((d_0.Window.Days == (0 : Int)) = true), ((d_0.Window.Days == (0 : Int)) = true)]) (by kernel_rfl) (by kernel_rfl) ⟨rfl, (discount_Check_ret d_0 r1 h2), (not_f (beq_t c3)), (beq_f c4), (decide_eq_false c5), (not_f (beq_t c6)), (not_t (beq_f c7)), (not_f (beq_t c13)), (beq_t c14), (beq_t c14), (beq_t c14), (beq_t c14), (beq_t c14), (beq_t c14), (beq_t c14), (beq_t c14), ok1 (beq_t c14)⟩
theorem discount_Applies_5 (d_0 : Tapi_Discount) (x_1 : Tapi_Trip) (earlier_2 : Int) (r1 : Int) (h2 : discount_Check d_0 = some r1) (c3 : r1 = (0 : Int)) (c4 : ¬ ((↑x_1.Stops.length : Int) = (0 : Int))) (c5 : ¬ (earlier_2 < d_0.Least)) (c6 : d_0.System = []) (c7 : ¬ (d_0.Class = (0 : Int))) (c13 : d_0.Class = x_1.Class) (c14 : ¬ (d_0.Window.Days = (0 : Int))) (x15 : Tapi_Stop) (h16 : x_1.Stops[0]? = some x15) (r17 : Bool) (h18 : clock_In d_0.Window x15.Time = some r17) : Ret Try.prog G0 26 [.agg (Tapi_Discount.enc d_0), .agg (Tapi_Trip.enc x_1), .int .i64 earlier_2] (.bool r17) [] :=
  Ret.of_view 400 (cs 4 ((.ret none [.agg (Tapi_Discount.enc d_0)] (.int .i64 r1) []) :: (.op none .a) :: (.op none .c) :: (.op (some false) .c) :: (cs 2 ((.op none .a) :: (cs 2 ((.op (some false) .c) :: (cs 2 ((.op none .a) :: (.op none .c) :: (.br false) :: (cs 2 ((.op none .a) :: (.op none .c) :: (.op (some false) .c) :: (cs 8 ((.op none .a) :: (.op none .c) :: (.op (some true) .c) :: (cs 3 ((.op none .a) :: (cs 2 ((.br false) :: (cs 3 [.op none .a, .op none .c, .op (some false) .c, .op (some false) .c, .op (some false) .c, .op (some false) .c, .op (some false) (.i 0), .op (some false) .c, .op (some false) (.v [.int .i64 x15.Time]), .ret (some false) [.agg (Tapi_Window.enc d_0.Window), .int .i64 x15.Time] (.bool r17) [], .op none (.b false), .op none .c]))))))))))))))))) [] (ps := [((.agg (Tapi_Discount.enc d_0) : AV) = .agg (Tapi_Discount.enc d_0)), (Ret Try.prog G0 19 [.agg (Tapi_Discount.enc d_0)] (.int .i64 r1) []), ((!(r1 == (0 : Int))) = false), (((↑x_1.Stops.length : Int) == (0 : Int)) = false), ((decide (earlier_2 < d_0.Least)) = false), ((!(d_0.System == [])) = false), ((!(d_0.Class == (0 : Int))) = true), ((!(d_0.Class == x_1.Class)) = false), ((d_0.Window.Days == (0 : Int)) = false), ((d_0.Window.Days == (0 : Int)) = false), ((d_0.Window.Days == (0 : Int)) = false), ((d_0.Window.Days == (0 : Int)) = false), ((d_0.Window.Days == (0 : Int)) = false), ((0 : Int) = ((0 : Nat) : Int) ∧ 0 < x_1.Stops.length), ((fl Tapi_Stop.enc x_1.Stops) ≠ []), ((d_0.Window.Days == (0 : Int)) = false), ((d_0.Window.Days == (0 : Int)) = false), (sub (fl Tapi_Stop.enc x_1.Stops) 1 1 = [.int .i64 x15.Time]), ((d_0.Window.Days == (0 : Int)) = false), ((.agg (Tapi_Window.enc d_0.Window) : AV) = .agg (Tapi_Window.enc d_0.Window)), ((.int .i64 x15.Time : AV) = .int .i64 x15.Time), (Ret Try.prog G0 57 [.agg (Tapi_Window.enc d_0.Window), .int .i64 x15.Time] (.bool r17) []), ((d_0.Window.Days == (0 : Int)) = false)]) (by kernel_rfl) (by kernel_rfl) ⟨rfl, (discount_Check_ret d_0 r1 h2), (not_f (beq_t c3)), (beq_f c4), (decide_eq_false c5), (not_f (beq_t c6)), (not_t (beq_f c7)), (not_f (beq_t c13)), (beq_f c14), (beq_f c14), (beq_f c14), (beq_f c14), (beq_f c14), ⟨rfl, get_lt h16⟩, (fl_ne (f := Tapi_Stop.enc) (z := 2) (fun _ => rfl) h16), (beq_f c14), (beq_f c14), (fl_sub (f := Tapi_Stop.enc) (z := 3) (j := 0) (a := 1) (n := 1) (fun _ => rfl) h16 (by decide) rfl), (beq_f c14), rfl, rfl, (clock_In_ret d_0.Window x15.Time r17 h18), ok1 (beq_f c14)⟩
theorem discount_Applies_6 (d_0 : Tapi_Discount) (x_1 : Tapi_Trip) (earlier_2 : Int) (r1 : Int) (h2 : discount_Check d_0 = some r1) (c3 : r1 = (0 : Int)) (c4 : ¬ ((↑x_1.Stops.length : Int) = (0 : Int))) (c5 : ¬ (earlier_2 < d_0.Least)) (c6 : d_0.System = []) (c7 : ¬ (d_0.Class = (0 : Int))) (c13 : ¬ (d_0.Class = x_1.Class)) : Ret Try.prog G0 26 [.agg (Tapi_Discount.enc d_0), .agg (Tapi_Trip.enc x_1), .int .i64 earlier_2] (.bool false) [] :=
  Ret.of_view 400 (cs 4 ((.ret none [.agg (Tapi_Discount.enc d_0)] (.int .i64 r1) []) :: (.op none .a) :: (.op none .c) :: (.op (some false) .c) :: (cs 2 ((.op none .a) :: (cs 2 ((.op (some false) .c) :: (cs 2 ((.op none .a) :: (.op none .c) :: (.br false) :: (cs 2 ((.op none .a) :: (.op none .c) :: (.op (some false) .c) :: (cs 8 ((.op none .a) :: (.op none .c) :: (.op (some true) .c) :: (cs 3 ((.op none .a) :: (cs 2 [.br true, .op none .c]))))))))))))))) [] (ps := [((.agg (Tapi_Discount.enc d_0) : AV) = .agg (Tapi_Discount.enc d_0)), (Ret Try.prog G0 19 [.agg (Tapi_Discount.enc d_0)] (.int .i64 r1) []), ((!(r1 == (0 : Int))) = false), (((↑x_1.Stops.length : Int) == (0 : Int)) = false), ((decide (earlier_2 < d_0.Least)) = false), ((!(d_0.System == [])) = false), ((!(d_0.Class == (0 : Int))) = true), ((!(d_0.Class == x_1.Class)) = true)]) (by kernel_rfl) (by kernel_rfl) ⟨rfl, (discount_Check_ret d_0 r1 h2), (not_f (beq_t c3)), (beq_f c4), (decide_eq_false c5), (not_f (beq_t c6)), (not_t (beq_f c7)), ok1 (not_t (beq_f c13))⟩
theorem discount_Applies_7 (d_0 : Tapi_Discount) (x_1 : Tapi_Trip) (earlier_2 : Int) (r1 : Int) (h2 : discount_Check d_0 = some r1) (c3 : r1 = (0 : Int)) (c4 : ¬ ((↑x_1.Stops.length : Int) = (0 : Int))) (c5 : ¬ (earlier_2 < d_0.Least)) (c6 : ¬ (d_0.System = [])) (c19 : d_0.System = x_1.System) (c20 : d_0.Class = (0 : Int)) (c21 : d_0.Window.Days = (0 : Int)) : Ret Try.prog G0 26 [.agg (Tapi_Discount.enc d_0), .agg (Tapi_Trip.enc x_1), .int .i64 earlier_2] (.bool true) [] :=
  Ret.of_view 400 (cs 4 ((.ret none [.agg (Tapi_Discount.enc d_0)] (.int .i64 r1) []) :: (.op none .a) :: (.op none .c) :: (.op (some false) .c) :: (cs 2 ((.op none .a) :: (cs 2 ((.op (some false) .c) :: (cs 2 ((.op none .a) :: (.op none .c) :: (.br false) :: (cs 2 ((.op none .a) :: (.op none .c) :: (.op (some true) .c) :: (cs 3 ((.op none .a) :: (cs 2 ((.op (some false) .c) :: (.op none .c) :: (.op none .a) :: (.op none .c) :: (.op (some false) .c) :: (cs 6 ((.br false) :: (cs 3 [.op none .a, .op none .c, .op (some true) .c, .op (some true) .c, .op (some true) .c, .op (some true) .c, .op (some true) .c, .op (some true) .c, .op (some true) .c, .op (some true) .c, .op none (.b true), .op none .c]))))))))))))))))) [] (ps := [((.agg (Tapi_Discount.enc d_0) : AV) = .agg (Tapi_Discount.enc d_0)), (Ret Try.prog G0 19 [.agg (Tapi_Discount.enc d_0)] (.int .i64 r1) []), ((!(r1 == (0 : Int))) = false), (((↑x_1.Stops.length : Int) == (0 : Int)) = false), ((decide (earlier_2 < d_0.Least)) = false), ((!(d_0.System == [])) = true), ((!(d_0.System == x_1.System)) = false), ((!(d_0.Class == (0 : Int))) = false), (false = false), ((d_0.Window.Days == (0 : Int)) = true), ((d_0.Window.Days == (0 : Int)) = true), ((d_0.Window.Days == (0 : Int)) = true), ((d_0.Window.Days == (0 : Int)) = true), ((d_0.Window.Days == (0 : Int)) = true), ((d_0.Window.Days == (0 : Int)) = true), ((d_0.Window.Days == (0 : Int)) = true), ((d_0.Window.Days == (0 : Int)) = true), ((d_0.Window.Days == (0 : Int)) = true)]) (by kernel_rfl) (by kernel_rfl) ⟨rfl, (discount_Check_ret d_0 r1 h2), (not_f (beq_t c3)), (beq_f c4), (decide_eq_false c5), (not_t (beq_f c6)), (not_f (beq_t c19)), (not_f (beq_t c20)), rfl, (beq_t c21), (beq_t c21), (beq_t c21), (beq_t c21), (beq_t c21), (beq_t c21), (beq_t c21), (beq_t c21), ok1 (beq_t c21)⟩
theorem discount_Applies_8 (d_0 : Tapi_Discount) (x_1 : Tapi_Trip) (earlier_2 : Int) (r1 : Int) (h2 : discount_Check d_0 = some r1) (c3 : r1 = (0 : Int)) (c4 : ¬ ((↑x_1.Stops.length : Int) = (0 : Int))) (c5 : ¬ (earlier_2 < d_0.Least)) (c6 : ¬ (d_0.System = [])) (c19 : d_0.System = x_1.System) (c20 : d_0.Class = (0 : Int)) (c21 : ¬ (d_0.Window.Days = (0 : Int))) (x22 : Tapi_Stop) (h23 : x_1.Stops[0]? = some x22) (r24 : Bool) (h25 : clock_In d_0.Window x22.Time = some r24) : Ret Try.prog G0 26 [.agg (Tapi_Discount.enc d_0), .agg (Tapi_Trip.enc x_1), .int .i64 earlier_2] (.bool r24) [] :=
  Ret.of_view 400 (cs 4 ((.ret none [.agg (Tapi_Discount.enc d_0)] (.int .i64 r1) []) :: (.op none .a) :: (.op none .c) :: (.op (some false) .c) :: (cs 2 ((.op none .a) :: (cs 2 ((.op (some false) .c) :: (cs 2 ((.op none .a) :: (.op none .c) :: (.br false) :: (cs 2 ((.op none .a) :: (.op none .c) :: (.op (some true) .c) :: (cs 3 ((.op none .a) :: (cs 2 ((.op (some false) .c) :: (.op none .c) :: (.op none .a) :: (.op none .c) :: (.op (some false) .c) :: (cs 6 ((.br false) :: (cs 3 [.op none .a, .op none .c, .op (some false) .c, .op (some false) .c, .op (some false) .c, .op (some false) .c, .op (some false) (.i 0), .op (some false) .c, .op (some false) (.v [.int .i64 x22.Time]), .ret (some false) [.agg (Tapi_Window.enc d_0.Window), .int .i64 x22.Time] (.bool r24) [], .op none (.b false), .op none .c]))))))))))))))))) [] (ps := [((.agg (Tapi_Discount.enc d_0) : AV) = .agg (Tapi_Discount.enc d_0)), (Ret Try.prog G0 19 [.agg (Tapi_Discount.enc d_0)] (.int .i64 r1) []), ((!(r1 == (0 : Int))) = false), (((↑x_1.Stops.length : Int) == (0 : Int)) = false), ((decide (earlier_2 < d_0.Least)) = false), ((!(d_0.System == [])) = true), ((!(d_0.System == x_1.System)) = false), ((!(d_0.Class == (0 : Int))) = false), (false = false), ((d_0.Window.Days == (0 : Int)) = false), ((d_0.Window.Days == (0 : Int)) = false), ((d_0.Window.Days == (0 : Int)) = false), ((d_0.Window.Days == (0 : Int)) = false), ((d_0.Window.Days == (0 : Int)) = false), ((0 : Int) = ((0 : Nat) : Int) ∧ 0 < x_1.Stops.length), ((fl Tapi_Stop.enc x_1.Stops) ≠ []), ((d_0.Window.Days == (0 : Int)) = false), ((d_0.Window.Days == (0 : Int)) = false), (sub (fl Tapi_Stop.enc x_1.Stops) 1 1 = [.int .i64 x22.Time]), ((d_0.Window.Days == (0 : Int)) = false), ((.agg (Tapi_Window.enc d_0.Window) : AV) = .agg (Tapi_Window.enc d_0.Window)), ((.int .i64 x22.Time : AV) = .int .i64 x22.Time), (Ret Try.prog G0 57 [.agg (Tapi_Window.enc d_0.Window), .int .i64 x22.Time] (.bool r24) []), ((d_0.Window.Days == (0 : Int)) = false)]) (by kernel_rfl) (by kernel_rfl) ⟨rfl, (discount_Check_ret d_0 r1 h2), (not_f (beq_t c3)), (beq_f c4), (decide_eq_false c5), (not_t (beq_f c6)), (not_f (beq_t c19)), (not_f (beq_t c20)), rfl, (beq_f c21), (beq_f c21), (beq_f c21), (beq_f c21), (beq_f c21), ⟨rfl, get_lt h23⟩, (fl_ne (f := Tapi_Stop.enc) (z := 2) (fun _ => rfl) h23), (beq_f c21), (beq_f c21), (fl_sub (f := Tapi_Stop.enc) (z := 3) (j := 0) (a := 1) (n := 1) (fun _ => rfl) h23 (by decide) rfl), (beq_f c21), rfl, rfl, (clock_In_ret d_0.Window x22.Time r24 h25), ok1 (beq_f c21)⟩
theorem discount_Applies_9 (d_0 : Tapi_Discount) (x_1 : Tapi_Trip) (earlier_2 : Int) (r1 : Int) (h2 : discount_Check d_0 = some r1) (c3 : r1 = (0 : Int)) (c4 : ¬ ((↑x_1.Stops.length : Int) = (0 : Int))) (c5 : ¬ (earlier_2 < d_0.Least)) (c6 : ¬ (d_0.System = [])) (c19 : d_0.System = x_1.System) (c20 : ¬ (d_0.Class = (0 : Int))) (c26 : d_0.Class = x_1.Class) (c27 : d_0.Window.Days = (0 : Int)) : Ret Try.prog G0 26 [.agg (Tapi_Discount.enc d_0), .agg (Tapi_Trip.enc x_1), .int .i64 earlier_2] (.bool true) [] :=
  Ret.of_view 400 (cs 4 ((.ret none [.agg (Tapi_Discount.enc d_0)] (.int .i64 r1) []) :: (.op none .a) :: (.op none .c) :: (.op (some false) .c) :: (cs 2 ((.op none .a) :: (cs 2 ((.op (some false) .c) :: (cs 2 ((.op none .a) :: (.op none .c) :: (.br false) :: (cs 2 ((.op none .a) :: (.op none .c) :: (.op (some true) .c) :: (cs 3 ((.op none .a) :: (cs 2 ((.op (some false) .c) :: (.op none .c) :: (.op none .a) :: (.op none .c) :: (.op (some true) .c) :: (cs 3 ((.op none .a) :: (cs 2 ((.br false) :: (cs 3 [.op none .a, .op none .c, .op (some true) .c, .op (some true) .c, .op (some true) .c, .op (some true) .c, .op (some true) .c, .op (some true) .c, .op (some true) .c, .op (some true) .c, .op none (.b true), .op none .c]))))))))))))))))))) [] (ps := [((.agg (Tapi_Discount.enc d_0) : AV) = .agg (Tapi_Discount.enc d_0)), (Ret Try.prog G0 19 [.agg (Tapi_Discount.enc d_0)] (.int .i64 r1) []), ((!(r1 == (0 : Int))) = false), (((↑x_1.Stops.length : Int) == (0 : Int)) = false), ((decide (earlier_2 < d_0.Least)) = false), ((!(d_0.System == [])) = true), ((!(d_0.System == x_1.System)) = false), ((!(d_0.Class == (0 : Int))) = true), ((!(d_0.Class == x_1.Class)) = false), ((d_0.Window.Days == (0 : Int)) = true), ((d_0.Window.Days == (0 : Int)) = true), ((d_0.Window.Days == (0 : Int)) = true), ((d_0.Window.Days == (0 : Int)) = true), ((d_0.Window.Days == (0 : Int)) = true), ((d_0.Window.Days == (0 : Int)) = true), ((d_0.Window.Days == (0 : Int)) = true), ((d_0.Window.Days == (0 : Int)) = true), ((d_0.Window.Days == (0 : Int)) = true)]) (by kernel_rfl) (by kernel_rfl) ⟨rfl, (discount_Check_ret d_0 r1 h2), (not_f (beq_t c3)), (beq_f c4), (decide_eq_false c5), (not_t (beq_f c6)), (not_f (beq_t c19)), (not_t (beq_f c20)), (not_f (beq_t c26)), (beq_t c27), (beq_t c27), (beq_t c27), (beq_t c27), (beq_t c27), (beq_t c27), (beq_t c27), (beq_t c27), ok1 (beq_t c27)⟩
theorem discount_Applies_10 (d_0 : Tapi_Discount) (x_1 : Tapi_Trip) (earlier_2 : Int) (r1 : Int) (h2 : discount_Check d_0 = some r1) (c3 : r1 = (0 : Int)) (c4 : ¬ ((↑x_1.Stops.length : Int) = (0 : Int))) (c5 : ¬ (earlier_2 < d_0.Least)) (c6 : ¬ (d_0.System = [])) (c19 : d_0.System = x_1.System) (c20 : ¬ (d_0.Class = (0 : Int))) (c26 : d_0.Class = x_1.Class) (c27 : ¬ (d_0.Window.Days = (0 : Int))) (x28 : Tapi_Stop) (h29 : x_1.Stops[0]? = some x28) (r30 : Bool) (h31 : clock_In d_0.Window x28.Time = some r30) : Ret Try.prog G0 26 [.agg (Tapi_Discount.enc d_0), .agg (Tapi_Trip.enc x_1), .int .i64 earlier_2] (.bool r30) [] :=
  Ret.of_view 400 (cs 4 ((.ret none [.agg (Tapi_Discount.enc d_0)] (.int .i64 r1) []) :: (.op none .a) :: (.op none .c) :: (.op (some false) .c) :: (cs 2 ((.op none .a) :: (cs 2 ((.op (some false) .c) :: (cs 2 ((.op none .a) :: (.op none .c) :: (.br false) :: (cs 2 ((.op none .a) :: (.op none .c) :: (.op (some true) .c) :: (cs 3 ((.op none .a) :: (cs 2 ((.op (some false) .c) :: (.op none .c) :: (.op none .a) :: (.op none .c) :: (.op (some true) .c) :: (cs 3 ((.op none .a) :: (cs 2 ((.br false) :: (cs 3 [.op none .a, .op none .c, .op (some false) .c, .op (some false) .c, .op (some false) .c, .op (some false) .c, .op (some false) (.i 0), .op (some false) .c, .op (some false) (.v [.int .i64 x28.Time]), .ret (some false) [.agg (Tapi_Window.enc d_0.Window), .int .i64 x28.Time] (.bool r30) [], .op none (.b false), .op none .c]))))))))))))))))))) [] (ps := [((.agg (Tapi_Discount.enc d_0) : AV) = .agg (Tapi_Discount.enc d_0)), (Ret Try.prog G0 19 [.agg (Tapi_Discount.enc d_0)] (.int .i64 r1) []), ((!(r1 == (0 : Int))) = false), (((↑x_1.Stops.length : Int) == (0 : Int)) = false), ((decide (earlier_2 < d_0.Least)) = false), ((!(d_0.System == [])) = true), ((!(d_0.System == x_1.System)) = false), ((!(d_0.Class == (0 : Int))) = true), ((!(d_0.Class == x_1.Class)) = false), ((d_0.Window.Days == (0 : Int)) = false), ((d_0.Window.Days == (0 : Int)) = false), ((d_0.Window.Days == (0 : Int)) = false), ((d_0.Window.Days == (0 : Int)) = false), ((d_0.Window.Days == (0 : Int)) = false), ((0 : Int) = ((0 : Nat) : Int) ∧ 0 < x_1.Stops.length), ((fl Tapi_Stop.enc x_1.Stops) ≠ []), ((d_0.Window.Days == (0 : Int)) = false), ((d_0.Window.Days == (0 : Int)) = false), (sub (fl Tapi_Stop.enc x_1.Stops) 1 1 = [.int .i64 x28.Time]), ((d_0.Window.Days == (0 : Int)) = false), ((.agg (Tapi_Window.enc d_0.Window) : AV) = .agg (Tapi_Window.enc d_0.Window)), ((.int .i64 x28.Time : AV) = .int .i64 x28.Time), (Ret Try.prog G0 57 [.agg (Tapi_Window.enc d_0.Window), .int .i64 x28.Time] (.bool r30) []), ((d_0.Window.Days == (0 : Int)) = false)]) (by kernel_rfl) (by kernel_rfl) ⟨rfl, (discount_Check_ret d_0 r1 h2), (not_f (beq_t c3)), (beq_f c4), (decide_eq_false c5), (not_t (beq_f c6)), (not_f (beq_t c19)), (not_t (beq_f c20)), (not_f (beq_t c26)), (beq_f c27), (beq_f c27), (beq_f c27), (beq_f c27), (beq_f c27), ⟨rfl, get_lt h29⟩, (fl_ne (f := Tapi_Stop.enc) (z := 2) (fun _ => rfl) h29), (beq_f c27), (beq_f c27), (fl_sub (f := Tapi_Stop.enc) (z := 3) (j := 0) (a := 1) (n := 1) (fun _ => rfl) h29 (by decide) rfl), (beq_f c27), rfl, rfl, (clock_In_ret d_0.Window x28.Time r30 h31), ok1 (beq_f c27)⟩
theorem discount_Applies_11 (d_0 : Tapi_Discount) (x_1 : Tapi_Trip) (earlier_2 : Int) (r1 : Int) (h2 : discount_Check d_0 = some r1) (c3 : r1 = (0 : Int)) (c4 : ¬ ((↑x_1.Stops.length : Int) = (0 : Int))) (c5 : ¬ (earlier_2 < d_0.Least)) (c6 : ¬ (d_0.System = [])) (c19 : d_0.System = x_1.System) (c20 : ¬ (d_0.Class = (0 : Int))) (c26 : ¬ (d_0.Class = x_1.Class)) : Ret Try.prog G0 26 [.agg (Tapi_Discount.enc d_0), .agg (Tapi_Trip.enc x_1), .int .i64 earlier_2] (.bool false) [] :=
  Ret.of_view 400 (cs 4 ((.ret none [.agg (Tapi_Discount.enc d_0)] (.int .i64 r1) []) :: (.op none .a) :: (.op none .c) :: (.op (some false) .c) :: (cs 2 ((.op none .a) :: (cs 2 ((.op (some false) .c) :: (cs 2 ((.op none .a) :: (.op none .c) :: (.br false) :: (cs 2 ((.op none .a) :: (.op none .c) :: (.op (some true) .c) :: (cs 3 ((.op none .a) :: (cs 2 ((.op (some false) .c) :: (.op none .c) :: (.op none .a) :: (.op none .c) :: (.op (some true) .c) :: (cs 3 ((.op none .a) :: (cs 2 [.br true, .op none .c]))))))))))))))))) [] (ps := [((.agg (Tapi_Discount.enc d_0) : AV) = .agg (Tapi_Discount.enc d_0)), (Ret Try.prog G0 19 [.agg (Tapi_Discount.enc d_0)] (.int .i64 r1) []), ((!(r1 == (0 : Int))) = false), (((↑x_1.Stops.length : Int) == (0 : Int)) = false), ((decide (earlier_2 < d_0.Least)) = false), ((!(d_0.System == [])) = true), ((!(d_0.System == x_1.System)) = false), ((!(d_0.Class == (0 : Int))) = true), ((!(d_0.Class == x_1.Class)) = true)]) (by kernel_rfl) (by kernel_rfl) ⟨rfl, (discount_Check_ret d_0 r1 h2), (not_f (beq_t c3)), (beq_f c4), (decide_eq_false c5), (not_t (beq_f c6)), (not_f (beq_t c19)), (not_t (beq_f c20)), ok1 (not_t (beq_f c26))⟩
theorem discount_Applies_12 (d_0 : Tapi_Discount) (x_1 : Tapi_Trip) (earlier_2 : Int) (r1 : Int) (h2 : discount_Check d_0 = some r1) (c3 : r1 = (0 : Int)) (c4 : ¬ ((↑x_1.Stops.length : Int) = (0 : Int))) (c5 : ¬ (earlier_2 < d_0.Least)) (c6 : ¬ (d_0.System = [])) (c19 : ¬ (d_0.System = x_1.System)) : Ret Try.prog G0 26 [.agg (Tapi_Discount.enc d_0), .agg (Tapi_Trip.enc x_1), .int .i64 earlier_2] (.bool false) [] :=
  Ret.of_view 400 (cs 4 ((.ret none [.agg (Tapi_Discount.enc d_0)] (.int .i64 r1) []) :: (.op none .a) :: (.op none .c) :: (.op (some false) .c) :: (cs 2 ((.op none .a) :: (cs 2 ((.op (some false) .c) :: (cs 2 ((.op none .a) :: (.op none .c) :: (.br false) :: (cs 2 ((.op none .a) :: (.op none .c) :: (.op (some true) .c) :: (cs 3 ((.op none .a) :: (cs 2 ((.op (some true) .c) :: (cs 10 [.br true, .op none .c]))))))))))))))) [] (ps := [((.agg (Tapi_Discount.enc d_0) : AV) = .agg (Tapi_Discount.enc d_0)), (Ret Try.prog G0 19 [.agg (Tapi_Discount.enc d_0)] (.int .i64 r1) []), ((!(r1 == (0 : Int))) = false), (((↑x_1.Stops.length : Int) == (0 : Int)) = false), ((decide (earlier_2 < d_0.Least)) = false), ((!(d_0.System == [])) = true), ((!(d_0.System == x_1.System)) = true), (true = true)]) (by kernel_rfl) (by kernel_rfl) ⟨rfl, (discount_Check_ret d_0 r1 h2), (not_f (beq_t c3)), (beq_f c4), (decide_eq_false c5), (not_t (beq_f c6)), (not_t (beq_f c19)), ok1 rfl⟩
theorem discount_Applies_13 (d_0 : Tapi_Discount) (x_1 : Tapi_Trip) (earlier_2 : Int) (r1 : Int) (h2 : discount_Check d_0 = some r1) (c3 : ¬ (r1 = (0 : Int))) : Ret Try.prog G0 26 [.agg (Tapi_Discount.enc d_0), .agg (Tapi_Trip.enc x_1), .int .i64 earlier_2] (.bool false) [] :=
  Ret.of_view 400 (cs 4 ((.ret none [.agg (Tapi_Discount.enc d_0)] (.int .i64 r1) []) :: (.op none .a) :: (.op none .c) :: (.op (some true) .c) :: (cs 10 [.br true, .op none .c]))) [] (ps := [((.agg (Tapi_Discount.enc d_0) : AV) = .agg (Tapi_Discount.enc d_0)), (Ret Try.prog G0 19 [.agg (Tapi_Discount.enc d_0)] (.int .i64 r1) []), ((!(r1 == (0 : Int))) = true), (true = true)]) (by kernel_rfl) (by kernel_rfl) ⟨rfl, (discount_Check_ret d_0 r1 h2), (not_t (beq_f c3)), ok1 rfl⟩
theorem discount_Applies_ret (d_0 : Tapi_Discount) (x_1 : Tapi_Trip) (earlier_2 : Int) (r : Bool) (h : discount_Applies d_0 x_1 earlier_2 = some r) : Ret Try.prog G0 26 [.agg (Tapi_Discount.enc d_0), .agg (Tapi_Trip.enc x_1), .int .i64 earlier_2] (.bool r) [] := by
  unfold discount_Applies at h
  obtain ⟨r1, h2, h⟩ := bind_some h
  rcases ite_some h with ⟨c3, h⟩ | ⟨c3, h⟩
  · rcases ite_some h with ⟨c4, h⟩ | ⟨c4, h⟩
    · simp only [Option.some.injEq] at h
      subst h
      exact discount_Applies_0 d_0 x_1 earlier_2 r1 h2 c3 c4
    · rcases ite_some h with ⟨c5, h⟩ | ⟨c5, h⟩
      · simp only [Option.some.injEq] at h
        subst h
        exact discount_Applies_1 d_0 x_1 earlier_2 r1 h2 c3 c4 c5
      · rcases ite_some h with ⟨c6, h⟩ | ⟨c6, h⟩
        · rcases ite_some h with ⟨c7, h⟩ | ⟨c7, h⟩
          · rcases ite_some h with ⟨c8, h⟩ | ⟨c8, h⟩
            · simp only [Option.some.injEq] at h
              subst h
              exact discount_Applies_2 d_0 x_1 earlier_2 r1 h2 c3 c4 c5 c6 c7 c8
            · obtain ⟨x9, h10, h⟩ := bind_some h
              obtain ⟨r11, h12, h⟩ := bind_some h
              simp only [Option.some.injEq] at h
              subst h
              exact discount_Applies_3 d_0 x_1 earlier_2 r1 h2 c3 c4 c5 c6 c7 c8 x9 h10 r11 h12
          · rcases ite_some h with ⟨c13, h⟩ | ⟨c13, h⟩
            · rcases ite_some h with ⟨c14, h⟩ | ⟨c14, h⟩
              · simp only [Option.some.injEq] at h
                subst h
                exact discount_Applies_4 d_0 x_1 earlier_2 r1 h2 c3 c4 c5 c6 c7 c13 c14
              · obtain ⟨x15, h16, h⟩ := bind_some h
                obtain ⟨r17, h18, h⟩ := bind_some h
                simp only [Option.some.injEq] at h
                subst h
                exact discount_Applies_5 d_0 x_1 earlier_2 r1 h2 c3 c4 c5 c6 c7 c13 c14 x15 h16 r17 h18
            · simp only [Option.some.injEq] at h
              subst h
              exact discount_Applies_6 d_0 x_1 earlier_2 r1 h2 c3 c4 c5 c6 c7 c13
        · rcases ite_some h with ⟨c19, h⟩ | ⟨c19, h⟩
          · rcases ite_some h with ⟨c20, h⟩ | ⟨c20, h⟩
            · rcases ite_some h with ⟨c21, h⟩ | ⟨c21, h⟩
              · simp only [Option.some.injEq] at h
                subst h
                exact discount_Applies_7 d_0 x_1 earlier_2 r1 h2 c3 c4 c5 c6 c19 c20 c21
              · obtain ⟨x22, h23, h⟩ := bind_some h
                obtain ⟨r24, h25, h⟩ := bind_some h
                simp only [Option.some.injEq] at h
                subst h
                exact discount_Applies_8 d_0 x_1 earlier_2 r1 h2 c3 c4 c5 c6 c19 c20 c21 x22 h23 r24 h25
            · rcases ite_some h with ⟨c26, h⟩ | ⟨c26, h⟩
              · rcases ite_some h with ⟨c27, h⟩ | ⟨c27, h⟩
                · simp only [Option.some.injEq] at h
                  subst h
                  exact discount_Applies_9 d_0 x_1 earlier_2 r1 h2 c3 c4 c5 c6 c19 c20 c26 c27
                · obtain ⟨x28, h29, h⟩ := bind_some h
                  obtain ⟨r30, h31, h⟩ := bind_some h
                  simp only [Option.some.injEq] at h
                  subst h
                  exact discount_Applies_10 d_0 x_1 earlier_2 r1 h2 c3 c4 c5 c6 c19 c20 c26 c27 x28 h29 r30 h31
              · simp only [Option.some.injEq] at h
                subst h
                exact discount_Applies_11 d_0 x_1 earlier_2 r1 h2 c3 c4 c5 c6 c19 c20 c26
          · simp only [Option.some.injEq] at h
            subst h
            exact discount_Applies_12 d_0 x_1 earlier_2 r1 h2 c3 c4 c5 c6 c19
  · simp only [Option.some.injEq] at h
    subst h
    exact discount_Applies_13 d_0 x_1 earlier_2 r1 h2 c3
noncomputable def tollwayref24_Applies (d_0 : Tapi_Discount) (x_1 : Tapi_Trip) (earlier_2 : Int) : Option Bool :=
  (tollwayref24_Check d_0).bind fun r1 =>
  if r1 = (0 : Int) then
    if (↑x_1.Stops.length : Int) = (0 : Int) then
      some false
    else
      if d_0.System = [] then
        if d_0.Class = (0 : Int) then
          if d_0.Window.Days = (0 : Int) then
            some (decide (earlier_2 ≥ d_0.Least))
          else
            (x_1.Stops[0]?).bind fun x8 =>
            (tollwayref04_In d_0.Window x8.Time).bind fun r10 =>
            if r10 = true then
              some (decide (earlier_2 ≥ d_0.Least))
            else
              some false
        else
          if d_0.Window.Days = (0 : Int) then
            if d_0.Class = x_1.Class then
              some (decide (earlier_2 ≥ d_0.Least))
            else
              some false
          else
            (x_1.Stops[0]?).bind fun x15 =>
            (tollwayref04_In d_0.Window x15.Time).bind fun r17 =>
            if d_0.Class = x_1.Class then
              if r17 = true then
                some (decide (earlier_2 ≥ d_0.Least))
              else
                some false
            else
              some false
      else
        if d_0.Class = (0 : Int) then
          if d_0.Window.Days = (0 : Int) then
            if d_0.System = x_1.System then
              some (decide (earlier_2 ≥ d_0.Least))
            else
              some false
          else
            (x_1.Stops[0]?).bind fun x24 =>
            (tollwayref04_In d_0.Window x24.Time).bind fun r26 =>
            if d_0.System = x_1.System then
              if r26 = true then
                some (decide (earlier_2 ≥ d_0.Least))
              else
                some false
            else
              some false
        else
          if d_0.Window.Days = (0 : Int) then
            if d_0.System = x_1.System then
              if d_0.Class = x_1.Class then
                some (decide (earlier_2 ≥ d_0.Least))
              else
                some false
            else
              some false
          else
            (x_1.Stops[0]?).bind fun x33 =>
            (tollwayref04_In d_0.Window x33.Time).bind fun r35 =>
            if d_0.System = x_1.System then
              if d_0.Class = x_1.Class then
                if r35 = true then
                  some (decide (earlier_2 ≥ d_0.Least))
                else
                  some false
              else
                some false
            else
              some false
  else
    some false
theorem tollwayref24_Applies_0 (d_0 : Tapi_Discount) (x_1 : Tapi_Trip) (earlier_2 : Int) (r1 : Int) (h2 : tollwayref24_Check d_0 = some r1) (c3 : r1 = (0 : Int)) (c4 : (↑x_1.Stops.length : Int) = (0 : Int)) : Ret Try.prog G0 27 [.agg (Tapi_Discount.enc d_0), .agg (Tapi_Trip.enc x_1), .int .i64 earlier_2] (.bool false) [] :=
  Ret.of_view 400 (cs 4 ((.ret none [.agg (Tapi_Discount.enc d_0)] (.int .i64 r1) []) :: (.op none .a) :: (.op none .c) :: (.op (some false) .c) :: (cs 2 [.op none .a, .op none .c, .br true, .op none .c]))) [] (ps := [((.agg (Tapi_Discount.enc d_0) : AV) = .agg (Tapi_Discount.enc d_0)), (Ret Try.prog G0 20 [.agg (Tapi_Discount.enc d_0)] (.int .i64 r1) []), ((!(r1 == (0 : Int))) = false), (((↑x_1.Stops.length : Int) == (0 : Int)) = true)]) (by kernel_rfl) (by kernel_rfl) ⟨rfl, (tollwayref24_Check_ret d_0 r1 h2), (not_f (beq_t c3)), ok1 (beq_t c4)⟩
theorem tollwayref24_Applies_1 (d_0 : Tapi_Discount) (x_1 : Tapi_Trip) (earlier_2 : Int) (r1 : Int) (h2 : tollwayref24_Check d_0 = some r1) (c3 : r1 = (0 : Int)) (c4 : ¬ ((↑x_1.Stops.length : Int) = (0 : Int))) (c5 : d_0.System = []) (c6 : d_0.Class = (0 : Int)) (c7 : d_0.Window.Days = (0 : Int)) : Ret Try.prog G0 27 [.agg (Tapi_Discount.enc d_0), .agg (Tapi_Trip.enc x_1), .int .i64 earlier_2] (.bool (decide (earlier_2 ≥ d_0.Least))) [] :=
  Ret.of_view 400 (cs 4 ((.ret none [.agg (Tapi_Discount.enc d_0)] (.int .i64 r1) []) :: (.op none .a) :: (.op none .c) :: (.op (some false) .c) :: (cs 2 ((.op none .a) :: (.op none .c) :: (.br false) :: (cs 2 ((.op none .a) :: (.op none .c) :: (.op (some true) .c) :: (cs 8 ((.op none .a) :: (.op none .c) :: (.op (some true) .c) :: (cs 9 ((.op none .a) :: (.op none .c) :: (.op (some true) .c) :: (.op (some true) .c) :: (.op (some true) .c) :: (.op (some true) .c) :: (.op (some true) .c) :: (.op (some true) .c) :: (.op (some true) .c) :: (.op (some true) .c) :: (.op none (.b true)) :: (cs 12 ((.op none .a) :: (cs 2 []))))))))))))) [] (ps := [((.agg (Tapi_Discount.enc d_0) : AV) = .agg (Tapi_Discount.enc d_0)), (Ret Try.prog G0 20 [.agg (Tapi_Discount.enc d_0)] (.int .i64 r1) []), ((!(r1 == (0 : Int))) = false), (((↑x_1.Stops.length : Int) == (0 : Int)) = false), ((d_0.System == []) = true), ((d_0.Class == (0 : Int)) = true), ((d_0.Window.Days == (0 : Int)) = true), ((d_0.Window.Days == (0 : Int)) = true), ((d_0.Window.Days == (0 : Int)) = true), ((d_0.Window.Days == (0 : Int)) = true), ((d_0.Window.Days == (0 : Int)) = true), ((d_0.Window.Days == (0 : Int)) = true), ((d_0.Window.Days == (0 : Int)) = true), ((d_0.Window.Days == (0 : Int)) = true), ((d_0.Window.Days == (0 : Int)) = true)]) (by kernel_rfl) (by kernel_rfl) ⟨rfl, (tollwayref24_Check_ret d_0 r1 h2), (not_f (beq_t c3)), (beq_f c4), (beq_t c5), (beq_t c6), (beq_t c7), (beq_t c7), (beq_t c7), (beq_t c7), (beq_t c7), (beq_t c7), (beq_t c7), (beq_t c7), ok1 (beq_t c7)⟩
theorem tollwayref24_Applies_2 (d_0 : Tapi_Discount) (x_1 : Tapi_Trip) (earlier_2 : Int) (r1 : Int) (h2 : tollwayref24_Check d_0 = some r1) (c3 : r1 = (0 : Int)) (c4 : ¬ ((↑x_1.Stops.length : Int) = (0 : Int))) (c5 : d_0.System = []) (c6 : d_0.Class = (0 : Int)) (c7 : ¬ (d_0.Window.Days = (0 : Int))) (x8 : Tapi_Stop) (h9 : x_1.Stops[0]? = some x8) (r10 : Bool) (h11 : tollwayref04_In d_0.Window x8.Time = some r10) (c12 : r10 = true) : Ret Try.prog G0 27 [.agg (Tapi_Discount.enc d_0), .agg (Tapi_Trip.enc x_1), .int .i64 earlier_2] (.bool (decide (earlier_2 ≥ d_0.Least))) [] :=
  Ret.of_view 400 (cs 4 ((.ret none [.agg (Tapi_Discount.enc d_0)] (.int .i64 r1) []) :: (.op none .a) :: (.op none .c) :: (.op (some false) .c) :: (cs 2 ((.op none .a) :: (.op none .c) :: (.br false) :: (cs 2 ((.op none .a) :: (.op none .c) :: (.op (some true) .c) :: (cs 8 ((.op none .a) :: (.op none .c) :: (.op (some true) .c) :: (cs 9 ((.op none .a) :: (.op none .c) :: (.op (some false) .c) :: (.op (some false) .c) :: (.op (some false) .c) :: (.op (some false) .c) :: (.op (some false) (.i 0)) :: (.op (some false) .c) :: (.op (some false) (.v [.int .i64 x8.Time])) :: (.ret (some false) [.agg (Tapi_Window.enc d_0.Window), .int .i64 x8.Time] (.bool r10) []) :: (.op none (.b false)) :: (cs 9 ((.op (some true) .c) :: (cs 2 ((.op none .a) :: (cs 2 []))))))))))))))) [] (ps := [((.agg (Tapi_Discount.enc d_0) : AV) = .agg (Tapi_Discount.enc d_0)), (Ret Try.prog G0 20 [.agg (Tapi_Discount.enc d_0)] (.int .i64 r1) []), ((!(r1 == (0 : Int))) = false), (((↑x_1.Stops.length : Int) == (0 : Int)) = false), ((d_0.System == []) = true), ((d_0.Class == (0 : Int)) = true), ((d_0.Window.Days == (0 : Int)) = false), ((d_0.Window.Days == (0 : Int)) = false), ((d_0.Window.Days == (0 : Int)) = false), ((d_0.Window.Days == (0 : Int)) = false), ((d_0.Window.Days == (0 : Int)) = false), ((0 : Int) = ((0 : Nat) : Int) ∧ 0 < x_1.Stops.length), ((fl Tapi_Stop.enc x_1.Stops) ≠ []), ((d_0.Window.Days == (0 : Int)) = false), ((d_0.Window.Days == (0 : Int)) = false), (sub (fl Tapi_Stop.enc x_1.Stops) 1 1 = [.int .i64 x8.Time]), ((d_0.Window.Days == (0 : Int)) = false), ((.agg (Tapi_Window.enc d_0.Window) : AV) = .agg (Tapi_Window.enc d_0.Window)), ((.int .i64 x8.Time : AV) = .int .i64 x8.Time), (Ret Try.prog G0 58 [.agg (Tapi_Window.enc d_0.Window), .int .i64 x8.Time] (.bool r10) []), ((d_0.Window.Days == (0 : Int)) = false), (r10 = true)]) (by kernel_rfl) (by kernel_rfl) ⟨rfl, (tollwayref24_Check_ret d_0 r1 h2), (not_f (beq_t c3)), (beq_f c4), (beq_t c5), (beq_t c6), (beq_f c7), (beq_f c7), (beq_f c7), (beq_f c7), (beq_f c7), ⟨rfl, get_lt h9⟩, (fl_ne (f := Tapi_Stop.enc) (z := 2) (fun _ => rfl) h9), (beq_f c7), (beq_f c7), (fl_sub (f := Tapi_Stop.enc) (z := 3) (j := 0) (a := 1) (n := 1) (fun _ => rfl) h9 (by decide) rfl), (beq_f c7), rfl, rfl, (tollwayref04_In_ret d_0.Window x8.Time r10 h11), (beq_f c7), ok1 c12⟩
theorem tollwayref24_Applies_3 (d_0 : Tapi_Discount) (x_1 : Tapi_Trip) (earlier_2 : Int) (r1 : Int) (h2 : tollwayref24_Check d_0 = some r1) (c3 : r1 = (0 : Int)) (c4 : ¬ ((↑x_1.Stops.length : Int) = (0 : Int))) (c5 : d_0.System = []) (c6 : d_0.Class = (0 : Int)) (c7 : ¬ (d_0.Window.Days = (0 : Int))) (x8 : Tapi_Stop) (h9 : x_1.Stops[0]? = some x8) (r10 : Bool) (h11 : tollwayref04_In d_0.Window x8.Time = some r10) (c12 : ¬ (r10 = true)) : Ret Try.prog G0 27 [.agg (Tapi_Discount.enc d_0), .agg (Tapi_Trip.enc x_1), .int .i64 earlier_2] (.bool false) [] :=
  Ret.of_view 400 (cs 4 ((.ret none [.agg (Tapi_Discount.enc d_0)] (.int .i64 r1) []) :: (.op none .a) :: (.op none .c) :: (.op (some false) .c) :: (cs 2 ((.op none .a) :: (.op none .c) :: (.br false) :: (cs 2 ((.op none .a) :: (.op none .c) :: (.op (some true) .c) :: (cs 8 ((.op none .a) :: (.op none .c) :: (.op (some true) .c) :: (cs 9 ((.op none .a) :: (.op none .c) :: (.op (some false) .c) :: (.op (some false) .c) :: (.op (some false) .c) :: (.op (some false) .c) :: (.op (some false) (.i 0)) :: (.op (some false) .c) :: (.op (some false) (.v [.int .i64 x8.Time])) :: (.ret (some false) [.agg (Tapi_Window.enc d_0.Window), .int .i64 x8.Time] (.bool r10) []) :: (.op none (.b false)) :: (cs 9 ((.op (some false) .c) :: (cs 5 []))))))))))))) [] (ps := [((.agg (Tapi_Discount.enc d_0) : AV) = .agg (Tapi_Discount.enc d_0)), (Ret Try.prog G0 20 [.agg (Tapi_Discount.enc d_0)] (.int .i64 r1) []), ((!(r1 == (0 : Int))) = false), (((↑x_1.Stops.length : Int) == (0 : Int)) = false), ((d_0.System == []) = true), ((d_0.Class == (0 : Int)) = true), ((d_0.Window.Days == (0 : Int)) = false), ((d_0.Window.Days == (0 : Int)) = false), ((d_0.Window.Days == (0 : Int)) = false), ((d_0.Window.Days == (0 : Int)) = false), ((d_0.Window.Days == (0 : Int)) = false), ((0 : Int) = ((0 : Nat) : Int) ∧ 0 < x_1.Stops.length), ((fl Tapi_Stop.enc x_1.Stops) ≠ []), ((d_0.Window.Days == (0 : Int)) = false), ((d_0.Window.Days == (0 : Int)) = false), (sub (fl Tapi_Stop.enc x_1.Stops) 1 1 = [.int .i64 x8.Time]), ((d_0.Window.Days == (0 : Int)) = false), ((.agg (Tapi_Window.enc d_0.Window) : AV) = .agg (Tapi_Window.enc d_0.Window)), ((.int .i64 x8.Time : AV) = .int .i64 x8.Time), (Ret Try.prog G0 58 [.agg (Tapi_Window.enc d_0.Window), .int .i64 x8.Time] (.bool r10) []), ((d_0.Window.Days == (0 : Int)) = false), (r10 = false)]) (by kernel_rfl) (by kernel_rfl) ⟨rfl, (tollwayref24_Check_ret d_0 r1 h2), (not_f (beq_t c3)), (beq_f c4), (beq_t c5), (beq_t c6), (beq_f c7), (beq_f c7), (beq_f c7), (beq_f c7), (beq_f c7), ⟨rfl, get_lt h9⟩, (fl_ne (f := Tapi_Stop.enc) (z := 2) (fun _ => rfl) h9), (beq_f c7), (beq_f c7), (fl_sub (f := Tapi_Stop.enc) (z := 3) (j := 0) (a := 1) (n := 1) (fun _ => rfl) h9 (by decide) rfl), (beq_f c7), rfl, rfl, (tollwayref04_In_ret d_0.Window x8.Time r10 h11), (beq_f c7), ok1 (eq_false_of_ne_true c12)⟩
theorem tollwayref24_Applies_4 (d_0 : Tapi_Discount) (x_1 : Tapi_Trip) (earlier_2 : Int) (r1 : Int) (h2 : tollwayref24_Check d_0 = some r1) (c3 : r1 = (0 : Int)) (c4 : ¬ ((↑x_1.Stops.length : Int) = (0 : Int))) (c5 : d_0.System = []) (c6 : ¬ (d_0.Class = (0 : Int))) (c13 : d_0.Window.Days = (0 : Int)) (c14 : d_0.Class = x_1.Class) : Ret Try.prog G0 27 [.agg (Tapi_Discount.enc d_0), .agg (Tapi_Trip.enc x_1), .int .i64 earlier_2] (.bool (decide (earlier_2 ≥ d_0.Least))) [] :=
  Ret.of_view 400 (cs 4 ((.ret none [.agg (Tapi_Discount.enc d_0)] (.int .i64 r1) []) :: (.op none .a) :: (.op none .c) :: (.op (some false) .c) :: (cs 2 ((.op none .a) :: (.op none .c) :: (.br false) :: (cs 2 ((.op none .a) :: (.op none .c) :: (.op (some true) .c) :: (cs 8 ((.op none .a) :: (.op none .c) :: (.op (some false) .c) :: (cs 3 ((.op none .a) :: (cs 5 ((.op none .a) :: (.op none .c) :: (.op (some true) .c) :: (.op (some true) .c) :: (.op (some true) .c) :: (.op (some true) .c) :: (.op (some true) .c) :: (.op (some true) .c) :: (.op (some true) .c) :: (.op (some true) .c) :: (.op none (.b true)) :: (cs 6 ((.op (some true) .c) :: (cs 5 ((.op none .a) :: (cs 2 []))))))))))))))))) [] (ps := [((.agg (Tapi_Discount.enc d_0) : AV) = .agg (Tapi_Discount.enc d_0)), (Ret Try.prog G0 20 [.agg (Tapi_Discount.enc d_0)] (.int .i64 r1) []), ((!(r1 == (0 : Int))) = false), (((↑x_1.Stops.length : Int) == (0 : Int)) = false), ((d_0.System == []) = true), ((d_0.Class == (0 : Int)) = false), ((d_0.Window.Days == (0 : Int)) = true), ((d_0.Window.Days == (0 : Int)) = true), ((d_0.Window.Days == (0 : Int)) = true), ((d_0.Window.Days == (0 : Int)) = true), ((d_0.Window.Days == (0 : Int)) = true), ((d_0.Window.Days == (0 : Int)) = true), ((d_0.Window.Days == (0 : Int)) = true), ((d_0.Window.Days == (0 : Int)) = true), ((d_0.Window.Days == (0 : Int)) = true), ((d_0.Class == x_1.Class) = true)]) (by kernel_rfl) (by kernel_rfl) ⟨rfl, (tollwayref24_Check_ret d_0 r1 h2), (not_f (beq_t c3)), (beq_f c4), (beq_t c5), (beq_f c6), (beq_t c13), (beq_t c13), (beq_t c13), (beq_t c13), (beq_t c13), (beq_t c13), (beq_t c13), (beq_t c13), (beq_t c13), ok1 (beq_t c14)⟩
theorem tollwayref24_Applies_5 (d_0 : Tapi_Discount) (x_1 : Tapi_Trip) (earlier_2 : Int) (r1 : Int) (h2 : tollwayref24_Check d_0 = some r1) (c3 : r1 = (0 : Int)) (c4 : ¬ ((↑x_1.Stops.length : Int) = (0 : Int))) (c5 : d_0.System = []) (c6 : ¬ (d_0.Class = (0 : Int))) (c13 : d_0.Window.Days = (0 : Int)) (c14 : ¬ (d_0.Class = x_1.Class)) : Ret Try.prog G0 27 [.agg (Tapi_Discount.enc d_0), .agg (Tapi_Trip.enc x_1), .int .i64 earlier_2] (.bool false) [] :=
  Ret.of_view 400 (cs 4 ((.ret none [.agg (Tapi_Discount.enc d_0)] (.int .i64 r1) []) :: (.op none .a) :: (.op none .c) :: (.op (some false) .c) :: (cs 2 ((.op none .a) :: (.op none .c) :: (.br false) :: (cs 2 ((.op none .a) :: (.op none .c) :: (.op (some true) .c) :: (cs 8 ((.op none .a) :: (.op none .c) :: (.op (some false) .c) :: (cs 3 ((.op none .a) :: (cs 5 ((.op none .a) :: (.op none .c) :: (.op (some true) .c) :: (.op (some true) .c) :: (.op (some true) .c) :: (.op (some true) .c) :: (.op (some true) .c) :: (.op (some true) .c) :: (.op (some true) .c) :: (.op (some true) .c) :: (.op none (.b true)) :: (cs 6 ((.op (some false) .c) :: (cs 8 []))))))))))))))) [] (ps := [((.agg (Tapi_Discount.enc d_0) : AV) = .agg (Tapi_Discount.enc d_0)), (Ret Try.prog G0 20 [.agg (Tapi_Discount.enc d_0)] (.int .i64 r1) []), ((!(r1 == (0 : Int))) = false), (((↑x_1.Stops.length : Int) == (0 : Int)) = false), ((d_0.System == []) = true), ((d_0.Class == (0 : Int)) = false), ((d_0.Window.Days == (0 : Int)) = true), ((d_0.Window.Days == (0 : Int)) = true), ((d_0.Window.Days == (0 : Int)) = true), ((d_0.Window.Days == (0 : Int)) = true), ((d_0.Window.Days == (0 : Int)) = true), ((d_0.Window.Days == (0 : Int)) = true), ((d_0.Window.Days == (0 : Int)) = true), ((d_0.Window.Days == (0 : Int)) = true), ((d_0.Window.Days == (0 : Int)) = true), ((d_0.Class == x_1.Class) = false)]) (by kernel_rfl) (by kernel_rfl) ⟨rfl, (tollwayref24_Check_ret d_0 r1 h2), (not_f (beq_t c3)), (beq_f c4), (beq_t c5), (beq_f c6), (beq_t c13), (beq_t c13), (beq_t c13), (beq_t c13), (beq_t c13), (beq_t c13), (beq_t c13), (beq_t c13), (beq_t c13), ok1 (beq_f c14)⟩
theorem tollwayref24_Applies_6 (d_0 : Tapi_Discount) (x_1 : Tapi_Trip) (earlier_2 : Int) (r1 : Int) (h2 : tollwayref24_Check d_0 = some r1) (c3 : r1 = (0 : Int)) (c4 : ¬ ((↑x_1.Stops.length : Int) = (0 : Int))) (c5 : d_0.System = []) (c6 : ¬ (d_0.Class = (0 : Int))) (c13 : ¬ (d_0.Window.Days = (0 : Int))) (x15 : Tapi_Stop) (h16 : x_1.Stops[0]? = some x15) (r17 : Bool) (h18 : tollwayref04_In d_0.Window x15.Time = some r17) (c19 : d_0.Class = x_1.Class) (c20 : r17 = true) : Ret Try.prog G0 27 [.agg (Tapi_Discount.enc d_0), .agg (Tapi_Trip.enc x_1), .int .i64 earlier_2] (.bool (decide (earlier_2 ≥ d_0.Least))) [] :=
  Ret.of_view 400 (cs 4 ((.ret none [.agg (Tapi_Discount.enc d_0)] (.int .i64 r1) []) :: (.op none .a) :: (.op none .c) :: (.op (some false) .c) :: (cs 2 ((.op none .a) :: (.op none .c) :: (.br false) :: (cs 2 ((.op none .a) :: (.op none .c) :: (.op (some true) .c) :: (cs 8 ((.op none .a) :: (.op none .c) :: (.op (some false) .c) :: (cs 3 ((.op none .a) :: (cs 5 ((.op none .a) :: (.op none .c) :: (.op (some false) .c) :: (.op (some false) .c) :: (.op (some false) .c) :: (.op (some false) .c) :: (.op (some false) (.i 0)) :: (.op (some false) .c) :: (.op (some false) (.v [.int .i64 x15.Time])) :: (.ret (some false) [.agg (Tapi_Window.enc d_0.Window), .int .i64 x15.Time] (.bool r17) []) :: (.op none (.b false)) :: (cs 6 ((.op (some true) .c) :: (cs 2 ((.op (some true) .c) :: (cs 2 ((.op none .a) :: (cs 2 []))))))))))))))))))) [] (ps := [((.agg (Tapi_Discount.enc d_0) : AV) = .agg (Tapi_Discount.enc d_0)), (Ret Try.prog G0 20 [.agg (Tapi_Discount.enc d_0)] (.int .i64 r1) []), ((!(r1 == (0 : Int))) = false), (((↑x_1.Stops.length : Int) == (0 : Int)) = false), ((d_0.System == []) = true), ((d_0.Class == (0 : Int)) = false), ((d_0.Window.Days == (0 : Int)) = false), ((d_0.Window.Days == (0 : Int)) = false), ((d_0.Window.Days == (0 : Int)) = false), ((d_0.Window.Days == (0 : Int)) = false), ((d_0.Window.Days == (0 : Int)) = false), ((0 : Int) = ((0 : Nat) : Int) ∧ 0 < x_1.Stops.length), ((fl Tapi_Stop.enc x_1.Stops) ≠ []), ((d_0.Window.Days == (0 : Int)) = false), ((d_0.Window.Days == (0 : Int)) = false), (sub (fl Tapi_Stop.enc x_1.Stops) 1 1 = [.int .i64 x15.Time]), ((d_0.Window.Days == (0 : Int)) = false), ((.agg (Tapi_Window.enc d_0.Window) : AV) = .agg (Tapi_Window.enc d_0.Window)), ((.int .i64 x15.Time : AV) = .int .i64 x15.Time), (Ret Try.prog G0 58 [.agg (Tapi_Window.enc d_0.Window), .int .i64 x15.Time] (.bool r17) []), ((d_0.Window.Days == (0 : Int)) = false), ((d_0.Class == x_1.Class) = true), (r17 = true)]) (by kernel_rfl) (by kernel_rfl) ⟨rfl, (tollwayref24_Check_ret d_0 r1 h2), (not_f (beq_t c3)), (beq_f c4), (beq_t c5), (beq_f c6), (beq_f c13), (beq_f c13), (beq_f c13), (beq_f c13), (beq_f c13), ⟨rfl, get_lt h16⟩, (fl_ne (f := Tapi_Stop.enc) (z := 2) (fun _ => rfl) h16), (beq_f c13), (beq_f c13), (fl_sub (f := Tapi_Stop.enc) (z := 3) (j := 0) (a := 1) (n := 1) (fun _ => rfl) h16 (by decide) rfl), (beq_f c13), rfl, rfl, (tollwayref04_In_ret d_0.Window x15.Time r17 h18), (beq_f c13), (beq_t c19), ok1 c20⟩
theorem tollwayref24_Applies_7 (d_0 : Tapi_Discount) (x_1 : Tapi_Trip) (earlier_2 : Int) (r1 : Int) (h2 : tollwayref24_Check d_0 = some r1) (c3 : r1 = (0 : Int)) (c4 : ¬ ((↑x_1.Stops.length : Int) = (0 : Int))) (c5 : d_0.System = []) (c6 : ¬ (d_0.Class = (0 : Int))) (c13 : ¬ (d_0.Window.Days = (0 : Int))) (x15 : Tapi_Stop) (h16 : x_1.Stops[0]? = some x15) (r17 : Bool) (h18 : tollwayref04_In d_0.Window x15.Time = some r17) (c19 : d_0.Class = x_1.Class) (c20 : ¬ (r17 = true)) : Ret Try.prog G0 27 [.agg (Tapi_Discount.enc d_0), .agg (Tapi_Trip.enc x_1), .int .i64 earlier_2] (.bool false) [] :=
  Ret.of_view 400 (cs 4 ((.ret none [.agg (Tapi_Discount.enc d_0)] (.int .i64 r1) []) :: (.op none .a) :: (.op none .c) :: (.op (some false) .c) :: (cs 2 ((.op none .a) :: (.op none .c) :: (.br false) :: (cs 2 ((.op none .a) :: (.op none .c) :: (.op (some true) .c) :: (cs 8 ((.op none .a) :: (.op none .c) :: (.op (some false) .c) :: (cs 3 ((.op none .a) :: (cs 5 ((.op none .a) :: (.op none .c) :: (.op (some false) .c) :: (.op (some false) .c) :: (.op (some false) .c) :: (.op (some false) .c) :: (.op (some false) (.i 0)) :: (.op (some false) .c) :: (.op (some false) (.v [.int .i64 x15.Time])) :: (.ret (some false) [.agg (Tapi_Window.enc d_0.Window), .int .i64 x15.Time] (.bool r17) []) :: (.op none (.b false)) :: (cs 6 ((.op (some true) .c) :: (cs 2 ((.op (some false) .c) :: (cs 5 []))))))))))))))))) [] (ps := [((.agg (Tapi_Discount.enc d_0) : AV) = .agg (Tapi_Discount.enc d_0)), (Ret Try.prog G0 20 [.agg (Tapi_Discount.enc d_0)] (.int .i64 r1) []), ((!(r1 == (0 : Int))) = false), (((↑x_1.Stops.length : Int) == (0 : Int)) = false), ((d_0.System == []) = true), ((d_0.Class == (0 : Int)) = false), ((d_0.Window.Days == (0 : Int)) = false), ((d_0.Window.Days == (0 : Int)) = false), ((d_0.Window.Days == (0 : Int)) = false), ((d_0.Window.Days == (0 : Int)) = false), ((d_0.Window.Days == (0 : Int)) = false), ((0 : Int) = ((0 : Nat) : Int) ∧ 0 < x_1.Stops.length), ((fl Tapi_Stop.enc x_1.Stops) ≠ []), ((d_0.Window.Days == (0 : Int)) = false), ((d_0.Window.Days == (0 : Int)) = false), (sub (fl Tapi_Stop.enc x_1.Stops) 1 1 = [.int .i64 x15.Time]), ((d_0.Window.Days == (0 : Int)) = false), ((.agg (Tapi_Window.enc d_0.Window) : AV) = .agg (Tapi_Window.enc d_0.Window)), ((.int .i64 x15.Time : AV) = .int .i64 x15.Time), (Ret Try.prog G0 58 [.agg (Tapi_Window.enc d_0.Window), .int .i64 x15.Time] (.bool r17) []), ((d_0.Window.Days == (0 : Int)) = false), ((d_0.Class == x_1.Class) = true), (r17 = false)]) (by kernel_rfl) (by kernel_rfl) ⟨rfl, (tollwayref24_Check_ret d_0 r1 h2), (not_f (beq_t c3)), (beq_f c4), (beq_t c5), (beq_f c6), (beq_f c13), (beq_f c13), (beq_f c13), (beq_f c13), (beq_f c13), ⟨rfl, get_lt h16⟩, (fl_ne (f := Tapi_Stop.enc) (z := 2) (fun _ => rfl) h16), (beq_f c13), (beq_f c13), (fl_sub (f := Tapi_Stop.enc) (z := 3) (j := 0) (a := 1) (n := 1) (fun _ => rfl) h16 (by decide) rfl), (beq_f c13), rfl, rfl, (tollwayref04_In_ret d_0.Window x15.Time r17 h18), (beq_f c13), (beq_t c19), ok1 (eq_false_of_ne_true c20)⟩
theorem tollwayref24_Applies_8 (d_0 : Tapi_Discount) (x_1 : Tapi_Trip) (earlier_2 : Int) (r1 : Int) (h2 : tollwayref24_Check d_0 = some r1) (c3 : r1 = (0 : Int)) (c4 : ¬ ((↑x_1.Stops.length : Int) = (0 : Int))) (c5 : d_0.System = []) (c6 : ¬ (d_0.Class = (0 : Int))) (c13 : ¬ (d_0.Window.Days = (0 : Int))) (x15 : Tapi_Stop) (h16 : x_1.Stops[0]? = some x15) (r17 : Bool) (h18 : tollwayref04_In d_0.Window x15.Time = some r17) (c19 : ¬ (d_0.Class = x_1.Class)) : Ret Try.prog G0 27 [.agg (Tapi_Discount.enc d_0), .agg (Tapi_Trip.enc x_1), .int .i64 earlier_2] (.bool false) [] :=
  Ret.of_view 400 (cs 4 ((.ret none [.agg (Tapi_Discount.enc d_0)] (.int .i64 r1) []) :: (.op none .a) :: (.op none .c) :: (.op (some false) .c) :: (cs 2 ((.op none .a) :: (.op none .c) :: (.br false) :: (cs 2 ((.op none .a) :: (.op none .c) :: (.op (some true) .c) :: (cs 8 ((.op none .a) :: (.op none .c) :: (.op (some false) .c) :: (cs 3 ((.op none .a) :: (cs 5 ((.op none .a) :: (.op none .c) :: (.op (some false) .c) :: (.op (some false) .c) :: (.op (some false) .c) :: (.op (some false) .c) :: (.op (some false) (.i 0)) :: (.op (some false) .c) :: (.op (some false) (.v [.int .i64 x15.Time])) :: (.ret (some false) [.agg (Tapi_Window.enc d_0.Window), .int .i64 x15.Time] (.bool r17) []) :: (.op none (.b false)) :: (cs 6 ((.op (some false) .c) :: (cs 8 []))))))))))))))) [] (ps := [((.agg (Tapi_Discount.enc d_0) : AV) = .agg (Tapi_Discount.enc d_0)), (Ret Try.prog G0 20 [.agg (Tapi_Discount.enc d_0)] (.int .i64 r1) []), ((!(r1 == (0 : Int))) = false), (((↑x_1.Stops.length : Int) == (0 : Int)) = false), ((d_0.System == []) = true), ((d_0.Class == (0 : Int)) = false), ((d_0.Window.Days == (0 : Int)) = false), ((d_0.Window.Days == (0 : Int)) = false), ((d_0.Window.Days == (0 : Int)) = false), ((d_0.Window.Days == (0 : Int)) = false), ((d_0.Window.Days == (0 : Int)) = false), ((0 : Int) = ((0 : Nat) : Int) ∧ 0 < x_1.Stops.length), ((fl Tapi_Stop.enc x_1.Stops) ≠ []), ((d_0.Window.Days == (0 : Int)) = false), ((d_0.Window.Days == (0 : Int)) = false), (sub (fl Tapi_Stop.enc x_1.Stops) 1 1 = [.int .i64 x15.Time]), ((d_0.Window.Days == (0 : Int)) = false), ((.agg (Tapi_Window.enc d_0.Window) : AV) = .agg (Tapi_Window.enc d_0.Window)), ((.int .i64 x15.Time : AV) = .int .i64 x15.Time), (Ret Try.prog G0 58 [.agg (Tapi_Window.enc d_0.Window), .int .i64 x15.Time] (.bool r17) []), ((d_0.Window.Days == (0 : Int)) = false), ((d_0.Class == x_1.Class) = false)]) (by kernel_rfl) (by kernel_rfl) ⟨rfl, (tollwayref24_Check_ret d_0 r1 h2), (not_f (beq_t c3)), (beq_f c4), (beq_t c5), (beq_f c6), (beq_f c13), (beq_f c13), (beq_f c13), (beq_f c13), (beq_f c13), ⟨rfl, get_lt h16⟩, (fl_ne (f := Tapi_Stop.enc) (z := 2) (fun _ => rfl) h16), (beq_f c13), (beq_f c13), (fl_sub (f := Tapi_Stop.enc) (z := 3) (j := 0) (a := 1) (n := 1) (fun _ => rfl) h16 (by decide) rfl), (beq_f c13), rfl, rfl, (tollwayref04_In_ret d_0.Window x15.Time r17 h18), (beq_f c13), ok1 (beq_f c19)⟩
theorem tollwayref24_Applies_9 (d_0 : Tapi_Discount) (x_1 : Tapi_Trip) (earlier_2 : Int) (r1 : Int) (h2 : tollwayref24_Check d_0 = some r1) (c3 : r1 = (0 : Int)) (c4 : ¬ ((↑x_1.Stops.length : Int) = (0 : Int))) (c5 : ¬ (d_0.System = [])) (c21 : d_0.Class = (0 : Int)) (c22 : d_0.Window.Days = (0 : Int)) (c23 : d_0.System = x_1.System) : Ret Try.prog G0 27 [.agg (Tapi_Discount.enc d_0), .agg (Tapi_Trip.enc x_1), .int .i64 earlier_2] (.bool (decide (earlier_2 ≥ d_0.Least))) [] :=
  Ret.of_view 400 (cs 4 ((.ret none [.agg (Tapi_Discount.enc d_0)] (.int .i64 r1) []) :: (.op none .a) :: (.op none .c) :: (.op (some false) .c) :: (cs 2 ((.op none .a) :: (.op none .c) :: (.br false) :: (cs 2 ((.op none .a) :: (.op none .c) :: (.op (some false) .c) :: (cs 3 ((.op none .a) :: (cs 4 ((.op none .a) :: (.op none .c) :: (.op (some true) .c) :: (cs 9 ((.op none .a) :: (.op none .c) :: (.op (some true) .c) :: (.op (some true) .c) :: (.op (some true) .c) :: (.op (some true) .c) :: (.op (some true) .c) :: (.op (some true) .c) :: (.op (some true) .c) :: (.op (some true) .c) :: (.op none (.b true)) :: (cs 3 ((.op (some true) .c) :: (cs 8 ((.op none .a) :: (cs 2 []))))))))))))))))) [] (ps := [((.agg (Tapi_Discount.enc d_0) : AV) = .agg (Tapi_Discount.enc d_0)), (Ret Try.prog G0 20 [.agg (Tapi_Discount.enc d_0)] (.int .i64 r1) []), ((!(r1 == (0 : Int))) = false), (((↑x_1.Stops.length : Int) == (0 : Int)) = false), ((d_0.System == []) = false), ((d_0.Class == (0 : Int)) = true), ((d_0.Window.Days == (0 : Int)) = true), ((d_0.Window.Days == (0 : Int)) = true), ((d_0.Window.Days == (0 : Int)) = true), ((d_0.Window.Days == (0 : Int)) = true), ((d_0.Window.Days == (0 : Int)) = true), ((d_0.Window.Days == (0 : Int)) = true), ((d_0.Window.Days == (0 : Int)) = true), ((d_0.Window.Days == (0 : Int)) = true), ((d_0.Window.Days == (0 : Int)) = true), ((d_0.System == x_1.System) = true)]) (by kernel_rfl) (by kernel_rfl) ⟨rfl, (tollwayref24_Check_ret d_0 r1 h2), (not_f (beq_t c3)), (beq_f c4), (beq_f c5), (beq_t c21), (beq_t c22), (beq_t c22), (beq_t c22), (beq_t c22), (beq_t c22), (beq_t c22), (beq_t c22), (beq_t c22), (beq_t c22), ok1 (beq_t c23)⟩
theorem tollwayref24_Applies_10 (d_0 : Tapi_Discount) (x_1 : Tapi_Trip) (earlier_2 : Int) (r1 : Int) (h2 : tollwayref24_Check d_0 = some r1) (c3 : r1 = (0 : Int)) (c4 : ¬ ((↑x_1.Stops.length : Int) = (0 : Int))) (c5 : ¬ (d_0.System = [])) (c21 : d_0.Class = (0 : Int)) (c22 : d_0.Window.Days = (0 : Int)) (c23 : ¬ (d_0.System = x_1.System)) : Ret Try.prog G0 27 [.agg (Tapi_Discount.enc d_0), .agg (Tapi_Trip.enc x_1), .int .i64 earlier_2] (.bool false) [] :=
  Ret.of_view 400 (cs 4 ((.ret none [.agg (Tapi_Discount.enc d_0)] (.int .i64 r1) []) :: (.op none .a) :: (.op none .c) :: (.op (some false) .c) :: (cs 2 ((.op none .a) :: (.op none .c) :: (.br false) :: (cs 2 ((.op none .a) :: (.op none .c) :: (.op (some false) .c) :: (cs 3 ((.op none .a) :: (cs 4 ((.op none .a) :: (.op none .c) :: (.op (some true) .c) :: (cs 9 ((.op none .a) :: (.op none .c) :: (.op (some true) .c) :: (.op (some true) .c) :: (.op (some true) .c) :: (.op (some true) .c) :: (.op (some true) .c) :: (.op (some true) .c) :: (.op (some true) .c) :: (.op (some true) .c) :: (.op none (.b true)) :: (cs 3 ((.op (some false) .c) :: (cs 11 []))))))))))))))) [] (ps := [((.agg (Tapi_Discount.enc d_0) : AV) = .agg (Tapi_Discount.enc d_0)), (Ret Try.prog G0 20 [.agg (Tapi_Discount.enc d_0)] (.int .i64 r1) []), ((!(r1 == (0 : Int))) = false), (((↑x_1.Stops.length : Int) == (0 : Int)) = false), ((d_0.System == []) = false), ((d_0.Class == (0 : Int)) = true), ((d_0.Window.Days == (0 : Int)) = true), ((d_0.Window.Days == (0 : Int)) = true), ((d_0.Window.Days == (0 : Int)) = true), ((d_0.Window.Days == (0 : Int)) = true), ((d_0.Window.Days == (0 : Int)) = true), ((d_0.Window.Days == (0 : Int)) = true), ((d_0.Window.Days == (0 : Int)) = true), ((d_0.Window.Days == (0 : Int)) = true), ((d_0.Window.Days == (0 : Int)) = true), ((d_0.System == x_1.System) = false)]) (by kernel_rfl) (by kernel_rfl) ⟨rfl, (tollwayref24_Check_ret d_0 r1 h2), (not_f (beq_t c3)), (beq_f c4), (beq_f c5), (beq_t c21), (beq_t c22), (beq_t c22), (beq_t c22), (beq_t c22), (beq_t c22), (beq_t c22), (beq_t c22), (beq_t c22), (beq_t c22), ok1 (beq_f c23)⟩
theorem tollwayref24_Applies_11 (d_0 : Tapi_Discount) (x_1 : Tapi_Trip) (earlier_2 : Int) (r1 : Int) (h2 : tollwayref24_Check d_0 = some r1) (c3 : r1 = (0 : Int)) (c4 : ¬ ((↑x_1.Stops.length : Int) = (0 : Int))) (c5 : ¬ (d_0.System = [])) (c21 : d_0.Class = (0 : Int)) (c22 : ¬ (d_0.Window.Days = (0 : Int))) (x24 : Tapi_Stop) (h25 : x_1.Stops[0]? = some x24) (r26 : Bool) (h27 : tollwayref04_In d_0.Window x24.Time = some r26) (c28 : d_0.System = x_1.System) (c29 : r26 = true) : Ret Try.prog G0 27 [.agg (Tapi_Discount.enc d_0), .agg (Tapi_Trip.enc x_1), .int .i64 earlier_2] (.bool (decide (earlier_2 ≥ d_0.Least))) [] :=
  Ret.of_view 400 (cs 4 ((.ret none [.agg (Tapi_Discount.enc d_0)] (.int .i64 r1) []) :: (.op none .a) :: (.op none .c) :: (.op (some false) .c) :: (cs 2 ((.op none .a) :: (.op none .c) :: (.br false) :: (cs 2 ((.op none .a) :: (.op none .c) :: (.op (some false) .c) :: (cs 3 ((.op none .a) :: (cs 4 ((.op none .a) :: (.op none .c) :: (.op (some true) .c) :: (cs 9 ((.op none .a) :: (.op none .c) :: (.op (some false) .c) :: (.op (some false) .c) :: (.op (some false) .c) :: (.op (some false) .c) :: (.op (some false) (.i 0)) :: (.op (some false) .c) :: (.op (some false) (.v [.int .i64 x24.Time])) :: (.ret (some false) [.agg (Tapi_Window.enc d_0.Window), .int .i64 x24.Time] (.bool r26) []) :: (.op none (.b false)) :: (cs 3 ((.op (some true) .c) :: (cs 5 ((.op (some true) .c) :: (cs 2 ((.op none .a) :: (cs 2 []))))))))))))))))))) [] (ps := [((.agg (Tapi_Discount.enc d_0) : AV) = .agg (Tapi_Discount.enc d_0)), (Ret Try.prog G0 20 [.agg (Tapi_Discount.enc d_0)] (.int .i64 r1) []), ((!(r1 == (0 : Int))) = false), (((↑x_1.Stops.length : Int) == (0 : Int)) = false), ((d_0.System == []) = false), ((d_0.Class == (0 : Int)) = true), ((d_0.Window.Days == (0 : Int)) = false), ((d_0.Window.Days == (0 : Int)) = false), ((d_0.Window.Days == (0 : Int)) = false), ((d_0.Window.Days == (0 : Int)) = false), ((d_0.Window.Days == (0 : Int)) = false), ((0 : Int) = ((0 : Nat) : Int) ∧ 0 < x_1.Stops.length), ((fl Tapi_Stop.enc x_1.Stops) ≠ []), ((d_0.Window.Days == (0 : Int)) = false), ((d_0.Window.Days == (0 : Int)) = false), (sub (fl Tapi_Stop.enc x_1.Stops) 1 1 = [.int .i64 x24.Time]), ((d_0.Window.Days == (0 : Int)) = false), ((.agg (Tapi_Window.enc d_0.Window) : AV) = .agg (Tapi_Window.enc d_0.Window)), ((.int .i64 x24.Time : AV) = .int .i64 x24.Time), (Ret Try.prog G0 58 [.agg (Tapi_Window.enc d_0.Window), .int .i64 x24.Time] (.bool r26) []), ((d_0.Window.Days == (0 : Int)) = false), ((d_0.System == x_1.System) = true), (r26 = true)]) (by kernel_rfl) (by kernel_rfl) ⟨rfl, (tollwayref24_Check_ret d_0 r1 h2), (not_f (beq_t c3)), (beq_f c4), (beq_f c5), (beq_t c21), (beq_f c22), (beq_f c22), (beq_f c22), (beq_f c22), (beq_f c22), ⟨rfl, get_lt h25⟩, (fl_ne (f := Tapi_Stop.enc) (z := 2) (fun _ => rfl) h25), (beq_f c22), (beq_f c22), (fl_sub (f := Tapi_Stop.enc) (z := 3) (j := 0) (a := 1) (n := 1) (fun _ => rfl) h25 (by decide) rfl), (beq_f c22), rfl, rfl, (tollwayref04_In_ret d_0.Window x24.Time r26 h27), (beq_f c22), (beq_t c28), ok1 c29⟩
theorem tollwayref24_Applies_12 (d_0 : Tapi_Discount) (x_1 : Tapi_Trip) (earlier_2 : Int) (r1 : Int) (h2 : tollwayref24_Check d_0 = some r1) (c3 : r1 = (0 : Int)) (c4 : ¬ ((↑x_1.Stops.length : Int) = (0 : Int))) (c5 : ¬ (d_0.System = [])) (c21 : d_0.Class = (0 : Int)) (c22 : ¬ (d_0.Window.Days = (0 : Int))) (x24 : Tapi_Stop) (h25 : x_1.Stops[0]? = some x24) (r26 : Bool) (h27 : tollwayref04_In d_0.Window x24.Time = some r26) (c28 : d_0.System = x_1.System) (c29 : ¬ (r26 = true)) : Ret Try.prog G0 27 [.agg (Tapi_Discount.enc d_0), .agg (Tapi_Trip.enc x_1), .int .i64 earlier_2] (.bool false) [] :=
  Ret.of_view 400 (cs 4 ((.ret none [.agg (Tapi_Discount.enc d_0)] (.int .i64 r1) []) :: (.op none .a) :: (.op none .c) :: (.op (some false) .c) :: (cs 2 ((.op none .a) :: (.op none .c) :: (.br false) :: (cs 2 ((.op none .a) :: (.op none .c) :: (.op (some false) .c) :: (cs 3 ((.op none .a) :: (cs 4 ((.op none .a) :: (.op none .c) :: (.op (some true) .c) :: (cs 9 ((.op none .a) :: (.op none .c) :: (.op (some false) .c) :: (.op (some false) .c) :: (.op (some false) .c) :: (.op (some false) .c) :: (.op (some false) (.i 0)) :: (.op (some false) .c) :: (.op (some false) (.v [.int .i64 x24.Time])) :: (.ret (some false) [.agg (Tapi_Window.enc d_0.Window), .int .i64 x24.Time] (.bool r26) []) :: (.op none (.b false)) :: (cs 3 ((.op (some true) .c) :: (cs 5 ((.op (some false) .c) :: (cs 5 []))))))))))))))))) [] (ps := [((.agg (Tapi_Discount.enc d_0) : AV) = .agg (Tapi_Discount.enc d_0)), (Ret Try.prog G0 20 [.agg (Tapi_Discount.enc d_0)] (.int .i64 r1) []), ((!(r1 == (0 : Int))) = false), (((↑x_1.Stops.length : Int) == (0 : Int)) = false), ((d_0.System == []) = false), ((d_0.Class == (0 : Int)) = true), ((d_0.Window.Days == (0 : Int)) = false), ((d_0.Window.Days == (0 : Int)) = false), ((d_0.Window.Days == (0 : Int)) = false), ((d_0.Window.Days == (0 : Int)) = false), ((d_0.Window.Days == (0 : Int)) = false), ((0 : Int) = ((0 : Nat) : Int) ∧ 0 < x_1.Stops.length), ((fl Tapi_Stop.enc x_1.Stops) ≠ []), ((d_0.Window.Days == (0 : Int)) = false), ((d_0.Window.Days == (0 : Int)) = false), (sub (fl Tapi_Stop.enc x_1.Stops) 1 1 = [.int .i64 x24.Time]), ((d_0.Window.Days == (0 : Int)) = false), ((.agg (Tapi_Window.enc d_0.Window) : AV) = .agg (Tapi_Window.enc d_0.Window)), ((.int .i64 x24.Time : AV) = .int .i64 x24.Time), (Ret Try.prog G0 58 [.agg (Tapi_Window.enc d_0.Window), .int .i64 x24.Time] (.bool r26) []), ((d_0.Window.Days == (0 : Int)) = false), ((d_0.System == x_1.System) = true), (r26 = false)]) (by kernel_rfl) (by kernel_rfl) ⟨rfl, (tollwayref24_Check_ret d_0 r1 h2), (not_f (beq_t c3)), (beq_f c4), (beq_f c5), (beq_t c21), (beq_f c22), (beq_f c22), (beq_f c22), (beq_f c22), (beq_f c22), ⟨rfl, get_lt h25⟩, (fl_ne (f := Tapi_Stop.enc) (z := 2) (fun _ => rfl) h25), (beq_f c22), (beq_f c22), (fl_sub (f := Tapi_Stop.enc) (z := 3) (j := 0) (a := 1) (n := 1) (fun _ => rfl) h25 (by decide) rfl), (beq_f c22), rfl, rfl, (tollwayref04_In_ret d_0.Window x24.Time r26 h27), (beq_f c22), (beq_t c28), ok1 (eq_false_of_ne_true c29)⟩
theorem tollwayref24_Applies_13 (d_0 : Tapi_Discount) (x_1 : Tapi_Trip) (earlier_2 : Int) (r1 : Int) (h2 : tollwayref24_Check d_0 = some r1) (c3 : r1 = (0 : Int)) (c4 : ¬ ((↑x_1.Stops.length : Int) = (0 : Int))) (c5 : ¬ (d_0.System = [])) (c21 : d_0.Class = (0 : Int)) (c22 : ¬ (d_0.Window.Days = (0 : Int))) (x24 : Tapi_Stop) (h25 : x_1.Stops[0]? = some x24) (r26 : Bool) (h27 : tollwayref04_In d_0.Window x24.Time = some r26) (c28 : ¬ (d_0.System = x_1.System)) : Ret Try.prog G0 27 [.agg (Tapi_Discount.enc d_0), .agg (Tapi_Trip.enc x_1), .int .i64 earlier_2] (.bool false) [] :=
  Ret.of_view 400 (cs 4 ((.ret none [.agg (Tapi_Discount.enc d_0)] (.int .i64 r1) []) :: (.op none .a) :: (.op none .c) :: (.op (some false) .c) :: (cs 2 ((.op none .a) :: (.op none .c) :: (.br false) :: (cs 2 ((.op none .a) :: (.op none .c) :: (.op (some false) .c) :: (cs 3 ((.op none .a) :: (cs 4 ((.op none .a) :: (.op none .c) :: (.op (some true) .c) :: (cs 9 ((.op none .a) :: (.op none .c) :: (.op (some false) .c) :: (.op (some false) .c) :: (.op (some false) .c) :: (.op (some false) .c) :: (.op (some false) (.i 0)) :: (.op (some false) .c) :: (.op (some false) (.v [.int .i64 x24.Time])) :: (.ret (some false) [.agg (Tapi_Window.enc d_0.Window), .int .i64 x24.Time] (.bool r26) []) :: (.op none (.b false)) :: (cs 3 ((.op (some false) .c) :: (cs 11 []))))))))))))))) [] (ps := [((.agg (Tapi_Discount.enc d_0) : AV) = .agg (Tapi_Discount.enc d_0)), (Ret Try.prog G0 20 [.agg (Tapi_Discount.enc d_0)] (.int .i64 r1) []), ((!(r1 == (0 : Int))) = false), (((↑x_1.Stops.length : Int) == (0 : Int)) = false), ((d_0.System == []) = false), ((d_0.Class == (0 : Int)) = true), ((d_0.Window.Days == (0 : Int)) = false), ((d_0.Window.Days == (0 : Int)) = false), ((d_0.Window.Days == (0 : Int)) = false), ((d_0.Window.Days == (0 : Int)) = false), ((d_0.Window.Days == (0 : Int)) = false), ((0 : Int) = ((0 : Nat) : Int) ∧ 0 < x_1.Stops.length), ((fl Tapi_Stop.enc x_1.Stops) ≠ []), ((d_0.Window.Days == (0 : Int)) = false), ((d_0.Window.Days == (0 : Int)) = false), (sub (fl Tapi_Stop.enc x_1.Stops) 1 1 = [.int .i64 x24.Time]), ((d_0.Window.Days == (0 : Int)) = false), ((.agg (Tapi_Window.enc d_0.Window) : AV) = .agg (Tapi_Window.enc d_0.Window)), ((.int .i64 x24.Time : AV) = .int .i64 x24.Time), (Ret Try.prog G0 58 [.agg (Tapi_Window.enc d_0.Window), .int .i64 x24.Time] (.bool r26) []), ((d_0.Window.Days == (0 : Int)) = false), ((d_0.System == x_1.System) = false)]) (by kernel_rfl) (by kernel_rfl) ⟨rfl, (tollwayref24_Check_ret d_0 r1 h2), (not_f (beq_t c3)), (beq_f c4), (beq_f c5), (beq_t c21), (beq_f c22), (beq_f c22), (beq_f c22), (beq_f c22), (beq_f c22), ⟨rfl, get_lt h25⟩, (fl_ne (f := Tapi_Stop.enc) (z := 2) (fun _ => rfl) h25), (beq_f c22), (beq_f c22), (fl_sub (f := Tapi_Stop.enc) (z := 3) (j := 0) (a := 1) (n := 1) (fun _ => rfl) h25 (by decide) rfl), (beq_f c22), rfl, rfl, (tollwayref04_In_ret d_0.Window x24.Time r26 h27), (beq_f c22), ok1 (beq_f c28)⟩
theorem tollwayref24_Applies_14 (d_0 : Tapi_Discount) (x_1 : Tapi_Trip) (earlier_2 : Int) (r1 : Int) (h2 : tollwayref24_Check d_0 = some r1) (c3 : r1 = (0 : Int)) (c4 : ¬ ((↑x_1.Stops.length : Int) = (0 : Int))) (c5 : ¬ (d_0.System = [])) (c21 : ¬ (d_0.Class = (0 : Int))) (c30 : d_0.Window.Days = (0 : Int)) (c31 : d_0.System = x_1.System) (c32 : d_0.Class = x_1.Class) : Ret Try.prog G0 27 [.agg (Tapi_Discount.enc d_0), .agg (Tapi_Trip.enc x_1), .int .i64 earlier_2] (.bool (decide (earlier_2 ≥ d_0.Least))) [] :=
  Ret.of_view 400 (cs 4 ((.ret none [.agg (Tapi_Discount.enc d_0)] (.int .i64 r1) []) :: (.op none .a) :: (.op none .c) :: (.op (some false) .c) :: (cs 2 ((.op none .a) :: (.op none .c) :: (.br false) :: (cs 2 ((.op none .a) :: (.op none .c) :: (.op (some false) .c) :: (cs 3 ((.op none .a) :: (cs 4 ((.op none .a) :: (.op none .c) :: (.op (some false) .c) :: (cs 3 ((.op none .a) :: (cs 5 ((.op none .a) :: (.op none .c) :: (.op (some true) .c) :: (.op (some true) .c) :: (.op (some true) .c) :: (.op (some true) .c) :: (.op (some true) .c) :: (.op (some true) .c) :: (.op (some true) .c) :: (.op (some true) .c) :: (.op none (.b true)) :: (cs 3 ((.op (some true) .c) :: (cs 2 ((.op (some true) .c) :: (cs 5 ((.op none .a) :: (cs 2 []))))))))))))))))))))) [] (ps := [((.agg (Tapi_Discount.enc d_0) : AV) = .agg (Tapi_Discount.enc d_0)), (Ret Try.prog G0 20 [.agg (Tapi_Discount.enc d_0)] (.int .i64 r1) []), ((!(r1 == (0 : Int))) = false), (((↑x_1.Stops.length : Int) == (0 : Int)) = false), ((d_0.System == []) = false), ((d_0.Class == (0 : Int)) = false), ((d_0.Window.Days == (0 : Int)) = true), ((d_0.Window.Days == (0 : Int)) = true), ((d_0.Window.Days == (0 : Int)) = true), ((d_0.Window.Days == (0 : Int)) = true), ((d_0.Window.Days == (0 : Int)) = true), ((d_0.Window.Days == (0 : Int)) = true), ((d_0.Window.Days == (0 : Int)) = true), ((d_0.Window.Days == (0 : Int)) = true), ((d_0.Window.Days == (0 : Int)) = true), ((d_0.System == x_1.System) = true), ((d_0.Class == x_1.Class) = true)]) (by kernel_rfl) (by kernel_rfl) ⟨rfl, (tollwayref24_Check_ret d_0 r1 h2), (not_f (beq_t c3)), (beq_f c4), (beq_f c5), (beq_f c21), (beq_t c30), (beq_t c30), (beq_t c30), (beq_t c30), (beq_t c30), (beq_t c30), (beq_t c30), (beq_t c30), (beq_t c30), (beq_t c31), ok1 (beq_t c32)⟩
theorem tollwayref24_Applies_15 (d_0 : Tapi_Discount) (x_1 : Tapi_Trip) (earlier_2 : Int) (r1 : Int) (h2 : tollwayref24_Check d_0 = some r1) (c3 : r1 = (0 : Int)) (c4 : ¬ ((↑x_1.Stops.length : Int) = (0 : Int))) (c5 : ¬ (d_0.System = [])) (c21 : ¬ (d_0.Class = (0 : Int))) (c30 : d_0.Window.Days = (0 : Int)) (c31 : d_0.System = x_1.System) (c32 : ¬ (d_0.Class = x_1.Class)) : Ret Try.prog G0 27 [.agg (Tapi_Discount.enc d_0), .agg (Tapi_Trip.enc x_1), .int .i64 earlier_2] (.bool false) [] :=
  Ret.of_view 400 (cs 4 ((.ret none [.agg (Tapi_Discount.enc d_0)] (.int .i64 r1) []) :: (.op none .a) :: (.op none .c) :: (.op (some false) .c) :: (cs 2 ((.op none .a) :: (.op none .c) :: (.br false) :: (cs 2 ((.op none .a) :: (.op none .c) :: (.op (some false) .c) :: (cs 3 ((.op none .a) :: (cs 4 ((.op none .a) :: (.op none .c) :: (.op (some false) .c) :: (cs 3 ((.op none .a) :: (cs 5 ((.op none .a) :: (.op none .c) :: (.op (some true) .c) :: (.op (some true) .c) :: (.op (some true) .c) :: (.op (some true) .c) :: (.op (some true) .c) :: (.op (some true) .c) :: (.op (some true) .c) :: (.op (some true) .c) :: (.op none (.b true)) :: (cs 3 ((.op (some true) .c) :: (cs 2 ((.op (some false) .c) :: (cs 8 []))))))))))))))))))) [] (ps := [((.agg (Tapi_Discount.enc d_0) : AV) = .agg (Tapi_Discount.enc d_0)), (Ret Try.prog G0 20 [.agg (Tapi_Discount.enc d_0)] (.int .i64 r1) []), ((!(r1 == (0 : Int))) = false), (((↑x_1.Stops.length : Int) == (0 : Int)) = false), ((d_0.System == []) = false), ((d_0.Class == (0 : Int)) = false), ((d_0.Window.Days == (0 : Int)) = true), ((d_0.Window.Days == (0 : Int)) = true), ((d_0.Window.Days == (0 : Int)) = true), ((d_0.Window.Days == (0 : Int)) = true), ((d_0.Window.Days == (0 : Int)) = true), ((d_0.Window.Days == (0 : Int)) = true), ((d_0.Window.Days == (0 : Int)) = true), ((d_0.Window.Days == (0 : Int)) = true), ((d_0.Window.Days == (0 : Int)) = true), ((d_0.System == x_1.System) = true), ((d_0.Class == x_1.Class) = false)]) (by kernel_rfl) (by kernel_rfl) ⟨rfl, (tollwayref24_Check_ret d_0 r1 h2), (not_f (beq_t c3)), (beq_f c4), (beq_f c5), (beq_f c21), (beq_t c30), (beq_t c30), (beq_t c30), (beq_t c30), (beq_t c30), (beq_t c30), (beq_t c30), (beq_t c30), (beq_t c30), (beq_t c31), ok1 (beq_f c32)⟩
theorem tollwayref24_Applies_16 (d_0 : Tapi_Discount) (x_1 : Tapi_Trip) (earlier_2 : Int) (r1 : Int) (h2 : tollwayref24_Check d_0 = some r1) (c3 : r1 = (0 : Int)) (c4 : ¬ ((↑x_1.Stops.length : Int) = (0 : Int))) (c5 : ¬ (d_0.System = [])) (c21 : ¬ (d_0.Class = (0 : Int))) (c30 : d_0.Window.Days = (0 : Int)) (c31 : ¬ (d_0.System = x_1.System)) : Ret Try.prog G0 27 [.agg (Tapi_Discount.enc d_0), .agg (Tapi_Trip.enc x_1), .int .i64 earlier_2] (.bool false) [] :=
  Ret.of_view 400 (cs 4 ((.ret none [.agg (Tapi_Discount.enc d_0)] (.int .i64 r1) []) :: (.op none .a) :: (.op none .c) :: (.op (some false) .c) :: (cs 2 ((.op none .a) :: (.op none .c) :: (.br false) :: (cs 2 ((.op none .a) :: (.op none .c) :: (.op (some false) .c) :: (cs 3 ((.op none .a) :: (cs 4 ((.op none .a) :: (.op none .c) :: (.op (some false) .c) :: (cs 3 ((.op none .a) :: (cs 5 ((.op none .a) :: (.op none .c) :: (.op (some true) .c) :: (.op (some true) .c) :: (.op (some true) .c) :: (.op (some true) .c) :: (.op (some true) .c) :: (.op (some true) .c) :: (.op (some true) .c) :: (.op (some true) .c) :: (.op none (.b true)) :: (cs 3 ((.op (some false) .c) :: (cs 11 []))))))))))))))))) [] (ps := [((.agg (Tapi_Discount.enc d_0) : AV) = .agg (Tapi_Discount.enc d_0)), (Ret Try.prog G0 20 [.agg (Tapi_Discount.enc d_0)] (.int .i64 r1) []), ((!(r1 == (0 : Int))) = false), (((↑x_1.Stops.length : Int) == (0 : Int)) = false), ((d_0.System == []) = false), ((d_0.Class == (0 : Int)) = false), ((d_0.Window.Days == (0 : Int)) = true), ((d_0.Window.Days == (0 : Int)) = true), ((d_0.Window.Days == (0 : Int)) = true), ((d_0.Window.Days == (0 : Int)) = true), ((d_0.Window.Days == (0 : Int)) = true), ((d_0.Window.Days == (0 : Int)) = true), ((d_0.Window.Days == (0 : Int)) = true), ((d_0.Window.Days == (0 : Int)) = true), ((d_0.Window.Days == (0 : Int)) = true), ((d_0.System == x_1.System) = false)]) (by kernel_rfl) (by kernel_rfl) ⟨rfl, (tollwayref24_Check_ret d_0 r1 h2), (not_f (beq_t c3)), (beq_f c4), (beq_f c5), (beq_f c21), (beq_t c30), (beq_t c30), (beq_t c30), (beq_t c30), (beq_t c30), (beq_t c30), (beq_t c30), (beq_t c30), (beq_t c30), ok1 (beq_f c31)⟩
theorem tollwayref24_Applies_17 (d_0 : Tapi_Discount) (x_1 : Tapi_Trip) (earlier_2 : Int) (r1 : Int) (h2 : tollwayref24_Check d_0 = some r1) (c3 : r1 = (0 : Int)) (c4 : ¬ ((↑x_1.Stops.length : Int) = (0 : Int))) (c5 : ¬ (d_0.System = [])) (c21 : ¬ (d_0.Class = (0 : Int))) (c30 : ¬ (d_0.Window.Days = (0 : Int))) (x33 : Tapi_Stop) (h34 : x_1.Stops[0]? = some x33) (r35 : Bool) (h36 : tollwayref04_In d_0.Window x33.Time = some r35) (c37 : d_0.System = x_1.System) (c38 : d_0.Class = x_1.Class) (c39 : r35 = true) : Ret Try.prog G0 27 [.agg (Tapi_Discount.enc d_0), .agg (Tapi_Trip.enc x_1), .int .i64 earlier_2] (.bool (decide (earlier_2 ≥ d_0.Least))) [] :=
  Ret.of_view 400 (cs 4 ((.ret none [.agg (Tapi_Discount.enc d_0)] (.int .i64 r1) []) :: (.op none .a) :: (.op none .c) :: (.op (some false) .c) :: (cs 2 ((.op none .a) :: (.op none .c) :: (.br false) :: (cs 2 ((.op none .a) :: (.op none .c) :: (.op (some false) .c) :: (cs 3 ((.op none .a) :: (cs 4 ((.op none .a) :: (.op none .c) :: (.op (some false) .c) :: (cs 3 ((.op none .a) :: (cs 5 ((.op none .a) :: (.op none .c) :: (.op (some false) .c) :: (.op (some false) .c) :: (.op (some false) .c) :: (.op (some false) .c) :: (.op (some false) (.i 0)) :: (.op (some false) .c) :: (.op (some false) (.v [.int .i64 x33.Time])) :: (.ret (some false) [.agg (Tapi_Window.enc d_0.Window), .int .i64 x33.Time] (.bool r35) []) :: (.op none (.b false)) :: (cs 3 ((.op (some true) .c) :: (cs 2 ((.op (some true) .c) :: (cs 2 ((.op (some true) .c) :: (cs 2 ((.op none .a) :: (cs 2 []))))))))))))))))))))))) [] (ps := [((.agg (Tapi_Discount.enc d_0) : AV) = .agg (Tapi_Discount.enc d_0)), (Ret Try.prog G0 20 [.agg (Tapi_Discount.enc d_0)] (.int .i64 r1) []), ((!(r1 == (0 : Int))) = false), (((↑x_1.Stops.length : Int) == (0 : Int)) = false), ((d_0.System == []) = false), ((d_0.Class == (0 : Int)) = false), ((d_0.Window.Days == (0 : Int)) = false), ((d_0.Window.Days == (0 : Int)) = false), ((d_0.Window.Days == (0 : Int)) = false), ((d_0.Window.Days == (0 : Int)) = false), ((d_0.Window.Days == (0 : Int)) = false), ((0 : Int) = ((0 : Nat) : Int) ∧ 0 < x_1.Stops.length), ((fl Tapi_Stop.enc x_1.Stops) ≠ []), ((d_0.Window.Days == (0 : Int)) = false), ((d_0.Window.Days == (0 : Int)) = false), (sub (fl Tapi_Stop.enc x_1.Stops) 1 1 = [.int .i64 x33.Time]), ((d_0.Window.Days == (0 : Int)) = false), ((.agg (Tapi_Window.enc d_0.Window) : AV) = .agg (Tapi_Window.enc d_0.Window)), ((.int .i64 x33.Time : AV) = .int .i64 x33.Time), (Ret Try.prog G0 58 [.agg (Tapi_Window.enc d_0.Window), .int .i64 x33.Time] (.bool r35) []), ((d_0.Window.Days == (0 : Int)) = false), ((d_0.System == x_1.System) = true), ((d_0.Class == x_1.Class) = true), (r35 = true)]) (by kernel_rfl) (by kernel_rfl) ⟨rfl, (tollwayref24_Check_ret d_0 r1 h2), (not_f (beq_t c3)), (beq_f c4), (beq_f c5), (beq_f c21), (beq_f c30), (beq_f c30), (beq_f c30), (beq_f c30), (beq_f c30), ⟨rfl, get_lt h34⟩, (fl_ne (f := Tapi_Stop.enc) (z := 2) (fun _ => rfl) h34), (beq_f c30), (beq_f c30), (fl_sub (f := Tapi_Stop.enc) (z := 3) (j := 0) (a := 1) (n := 1) (fun _ => rfl) h34 (by decide) rfl), (beq_f c30), rfl, rfl, (tollwayref04_In_ret d_0.Window x33.Time r35 h36), (beq_f c30), (beq_t c37), (beq_t c38), ok1 c39⟩
theorem tollwayref24_Applies_18 (d_0 : Tapi_Discount) (x_1 : Tapi_Trip) (earlier_2 : Int) (r1 : Int) (h2 : tollwayref24_Check d_0 = some r1) (c3 : r1 = (0 : Int)) (c4 : ¬ ((↑x_1.Stops.length : Int) = (0 : Int))) (c5 : ¬ (d_0.System = [])) (c21 : ¬ (d_0.Class = (0 : Int))) (c30 : ¬ (d_0.Window.Days = (0 : Int))) (x33 : Tapi_Stop) (h34 : x_1.Stops[0]? = some x33) (r35 : Bool) (h36 : tollwayref04_In d_0.Window x33.Time = some r35) (c37 : d_0.System = x_1.System) (c38 : d_0.Class = x_1.Class) (c39 : ¬ (r35 = true)) : Ret Try.prog G0 27 [.agg (Tapi_Discount.enc d_0), .agg (Tapi_Trip.enc x_1), .int .i64 earlier_2] (.bool false) [] :=
  Ret.of_view 400 (cs 4 ((.ret none [.agg (Tapi_Discount.enc d_0)] (.int .i64 r1) []) :: (.op none .a) :: (.op none .c) :: (.op (some false) .c) :: (cs 2 ((.op none .a) :: (.op none .c) :: (.br false) :: (cs 2 ((.op none .a) :: (.op none .c) :: (.op (some false) .c) :: (cs 3 ((.op none .a) :: (cs 4 ((.op none .a) :: (.op none .c) :: (.op (some false) .c) :: (cs 3 ((.op none .a) :: (cs 5 ((.op none .a) :: (.op none .c) :: (.op (some false) .c) :: (.op (some false) .c) :: (.op (some false) .c) :: (.op (some false) .c) :: (.op (some false) (.i 0)) :: (.op (some false) .c) :: (.op (some false) (.v [.int .i64 x33.Time])) :: (.ret (some false) [.agg (Tapi_Window.enc d_0.Window), .int .i64 x33.Time] (.bool r35) []) :: (.op none (.b false)) :: (cs 3 ((.op (some true) .c) :: (cs 2 ((.op (some true) .c) :: (cs 2 ((.op (some false) .c) :: (cs 5 []))))))))))))))))))))) [] (ps := [((.agg (Tapi_Discount.enc d_0) : AV) = .agg (Tapi_Discount.enc d_0)), (Ret Try.prog G0 20 [.agg (Tapi_Discount.enc d_0)] (.int .i64 r1) []), ((!(r1 == (0 : Int))) = false), (((↑x_1.Stops.length : Int) == (0 : Int)) = false), ((d_0.System == []) = false), ((d_0.Class == (0 : Int)) = false), ((d_0.Window.Days == (0 : Int)) = false), ((d_0.Window.Days == (0 : Int)) = false), ((d_0.Window.Days == (0 : Int)) = false), ((d_0.Window.Days == (0 : Int)) = false), ((d_0.Window.Days == (0 : Int)) = false), ((0 : Int) = ((0 : Nat) : Int) ∧ 0 < x_1.Stops.length), ((fl Tapi_Stop.enc x_1.Stops) ≠ []), ((d_0.Window.Days == (0 : Int)) = false), ((d_0.Window.Days == (0 : Int)) = false), (sub (fl Tapi_Stop.enc x_1.Stops) 1 1 = [.int .i64 x33.Time]), ((d_0.Window.Days == (0 : Int)) = false), ((.agg (Tapi_Window.enc d_0.Window) : AV) = .agg (Tapi_Window.enc d_0.Window)), ((.int .i64 x33.Time : AV) = .int .i64 x33.Time), (Ret Try.prog G0 58 [.agg (Tapi_Window.enc d_0.Window), .int .i64 x33.Time] (.bool r35) []), ((d_0.Window.Days == (0 : Int)) = false), ((d_0.System == x_1.System) = true), ((d_0.Class == x_1.Class) = true), (r35 = false)]) (by kernel_rfl) (by kernel_rfl) ⟨rfl, (tollwayref24_Check_ret d_0 r1 h2), (not_f (beq_t c3)), (beq_f c4), (beq_f c5), (beq_f c21), (beq_f c30), (beq_f c30), (beq_f c30), (beq_f c30), (beq_f c30), ⟨rfl, get_lt h34⟩, (fl_ne (f := Tapi_Stop.enc) (z := 2) (fun _ => rfl) h34), (beq_f c30), (beq_f c30), (fl_sub (f := Tapi_Stop.enc) (z := 3) (j := 0) (a := 1) (n := 1) (fun _ => rfl) h34 (by decide) rfl), (beq_f c30), rfl, rfl, (tollwayref04_In_ret d_0.Window x33.Time r35 h36), (beq_f c30), (beq_t c37), (beq_t c38), ok1 (eq_false_of_ne_true c39)⟩
theorem tollwayref24_Applies_19 (d_0 : Tapi_Discount) (x_1 : Tapi_Trip) (earlier_2 : Int) (r1 : Int) (h2 : tollwayref24_Check d_0 = some r1) (c3 : r1 = (0 : Int)) (c4 : ¬ ((↑x_1.Stops.length : Int) = (0 : Int))) (c5 : ¬ (d_0.System = [])) (c21 : ¬ (d_0.Class = (0 : Int))) (c30 : ¬ (d_0.Window.Days = (0 : Int))) (x33 : Tapi_Stop) (h34 : x_1.Stops[0]? = some x33) (r35 : Bool) (h36 : tollwayref04_In d_0.Window x33.Time = some r35) (c37 : d_0.System = x_1.System) (c38 : ¬ (d_0.Class = x_1.Class)) : Ret Try.prog G0 27 [.agg (Tapi_Discount.enc d_0), .agg (Tapi_Trip.enc x_1), .int .i64 earlier_2] (.bool false) [] :=
  Ret.of_view 400 (cs 4 ((.ret none [.agg (Tapi_Discount.enc d_0)] (.int .i64 r1) []) :: (.op none .a) :: (.op none .c) :: (.op (some false) .c) :: (cs 2 ((.op none .a) :: (.op none .c) :: (.br false) :: (cs 2 ((.op none .a) :: (.op none .c) :: (.op (some false) .c) :: (cs 3 ((.op none .a) :: (cs 4 ((.op none .a) :: (.op none .c) :: (.op (some false) .c) :: (cs 3 ((.op none .a) :: (cs 5 ((.op none .a) :: (.op none .c) :: (.op (some false) .c) :: (.op (some false) .c) :: (.op (some false) .c) :: (.op (some false) .c) :: (.op (some false) (.i 0)) :: (.op (some false) .c) :: (.op (some false) (.v [.int .i64 x33.Time])) :: (.ret (some false) [.agg (Tapi_Window.enc d_0.Window), .int .i64 x33.Time] (.bool r35) []) :: (.op none (.b false)) :: (cs 3 ((.op (some true) .c) :: (cs 2 ((.op (some false) .c) :: (cs 8 []))))))))))))))))))) [] (ps := [((.agg (Tapi_Discount.enc d_0) : AV) = .agg (Tapi_Discount.enc d_0)), (Ret Try.prog G0 20 [.agg (Tapi_Discount.enc d_0)] (.int .i64 r1) []), ((!(r1 == (0 : Int))) = false), (((↑x_1.Stops.length : Int) == (0 : Int)) = false), ((d_0.System == []) = false), ((d_0.Class == (0 : Int)) = false), ((d_0.Window.Days == (0 : Int)) = false), ((d_0.Window.Days == (0 : Int)) = false), ((d_0.Window.Days == (0 : Int)) = false), ((d_0.Window.Days == (0 : Int)) = false), ((d_0.Window.Days == (0 : Int)) = false), ((0 : Int) = ((0 : Nat) : Int) ∧ 0 < x_1.Stops.length), ((fl Tapi_Stop.enc x_1.Stops) ≠ []), ((d_0.Window.Days == (0 : Int)) = false), ((d_0.Window.Days == (0 : Int)) = false), (sub (fl Tapi_Stop.enc x_1.Stops) 1 1 = [.int .i64 x33.Time]), ((d_0.Window.Days == (0 : Int)) = false), ((.agg (Tapi_Window.enc d_0.Window) : AV) = .agg (Tapi_Window.enc d_0.Window)), ((.int .i64 x33.Time : AV) = .int .i64 x33.Time), (Ret Try.prog G0 58 [.agg (Tapi_Window.enc d_0.Window), .int .i64 x33.Time] (.bool r35) []), ((d_0.Window.Days == (0 : Int)) = false), ((d_0.System == x_1.System) = true), ((d_0.Class == x_1.Class) = false)]) (by kernel_rfl) (by kernel_rfl) ⟨rfl, (tollwayref24_Check_ret d_0 r1 h2), (not_f (beq_t c3)), (beq_f c4), (beq_f c5), (beq_f c21), (beq_f c30), (beq_f c30), (beq_f c30), (beq_f c30), (beq_f c30), ⟨rfl, get_lt h34⟩, (fl_ne (f := Tapi_Stop.enc) (z := 2) (fun _ => rfl) h34), (beq_f c30), (beq_f c30), (fl_sub (f := Tapi_Stop.enc) (z := 3) (j := 0) (a := 1) (n := 1) (fun _ => rfl) h34 (by decide) rfl), (beq_f c30), rfl, rfl, (tollwayref04_In_ret d_0.Window x33.Time r35 h36), (beq_f c30), (beq_t c37), ok1 (beq_f c38)⟩
theorem tollwayref24_Applies_20 (d_0 : Tapi_Discount) (x_1 : Tapi_Trip) (earlier_2 : Int) (r1 : Int) (h2 : tollwayref24_Check d_0 = some r1) (c3 : r1 = (0 : Int)) (c4 : ¬ ((↑x_1.Stops.length : Int) = (0 : Int))) (c5 : ¬ (d_0.System = [])) (c21 : ¬ (d_0.Class = (0 : Int))) (c30 : ¬ (d_0.Window.Days = (0 : Int))) (x33 : Tapi_Stop) (h34 : x_1.Stops[0]? = some x33) (r35 : Bool) (h36 : tollwayref04_In d_0.Window x33.Time = some r35) (c37 : ¬ (d_0.System = x_1.System)) : Ret Try.prog G0 27 [.agg (Tapi_Discount.enc d_0), .agg (Tapi_Trip.enc x_1), .int .i64 earlier_2] (.bool false) [] :=
  Ret.of_view 400 (cs 4 ((.ret none [.agg (Tapi_Discount.enc d_0)] (.int .i64 r1) []) :: (.op none .a) :: (.op none .c) :: (.op (some false) .c) :: (cs 2 ((.op none .a) :: (.op none .c) :: (.br false) :: (cs 2 ((.op none .a) :: (.op none .c) :: (.op (some false) .c) :: (cs 3 ((.op none .a) :: (cs 4 ((.op none .a) :: (.op none .c) :: (.op (some false) .c) :: (cs 3 ((.op none .a) :: (cs 5 ((.op none .a) :: (.op none .c) :: (.op (some false) .c) :: (.op (some false) .c) :: (.op (some false) .c) :: (.op (some false) .c) :: (.op (some false) (.i 0)) :: (.op (some false) .c) :: (.op (some false) (.v [.int .i64 x33.Time])) :: (.ret (some false) [.agg (Tapi_Window.enc d_0.Window), .int .i64 x33.Time] (.bool r35) []) :: (.op none (.b false)) :: (cs 3 ((.op (some false) .c) :: (cs 11 []))))))))))))))))) [] (ps := [((.agg (Tapi_Discount.enc d_0) : AV) = .agg (Tapi_Discount.enc d_0)), (Ret Try.prog G0 20 [.agg (Tapi_Discount.enc d_0)] (.int .i64 r1) []), ((!(r1 == (0 : Int))) = false), (((↑x_1.Stops.length : Int) == (0 : Int)) = false), ((d_0.System == []) = false), ((d_0.Class == (0 : Int)) = false), ((d_0.Window.Days == (0 : Int)) = false), ((d_0.Window.Days == (0 : Int)) = false), ((d_0.Window.Days == (0 : Int)) = false), ((d_0.Window.Days == (0 : Int)) = false), ((d_0.Window.Days == (0 : Int)) = false), ((0 : Int) = ((0 : Nat) : Int) ∧ 0 < x_1.Stops.length), ((fl Tapi_Stop.enc x_1.Stops) ≠ []), ((d_0.Window.Days == (0 : Int)) = false), ((d_0.Window.Days == (0 : Int)) = false), (sub (fl Tapi_Stop.enc x_1.Stops) 1 1 = [.int .i64 x33.Time]), ((d_0.Window.Days == (0 : Int)) = false), ((.agg (Tapi_Window.enc d_0.Window) : AV) = .agg (Tapi_Window.enc d_0.Window)), ((.int .i64 x33.Time : AV) = .int .i64 x33.Time), (Ret Try.prog G0 58 [.agg (Tapi_Window.enc d_0.Window), .int .i64 x33.Time] (.bool r35) []), ((d_0.Window.Days == (0 : Int)) = false), ((d_0.System == x_1.System) = false)]) (by kernel_rfl) (by kernel_rfl) ⟨rfl, (tollwayref24_Check_ret d_0 r1 h2), (not_f (beq_t c3)), (beq_f c4), (beq_f c5), (beq_f c21), (beq_f c30), (beq_f c30), (beq_f c30), (beq_f c30), (beq_f c30), ⟨rfl, get_lt h34⟩, (fl_ne (f := Tapi_Stop.enc) (z := 2) (fun _ => rfl) h34), (beq_f c30), (beq_f c30), (fl_sub (f := Tapi_Stop.enc) (z := 3) (j := 0) (a := 1) (n := 1) (fun _ => rfl) h34 (by decide) rfl), (beq_f c30), rfl, rfl, (tollwayref04_In_ret d_0.Window x33.Time r35 h36), (beq_f c30), ok1 (beq_f c37)⟩
theorem tollwayref24_Applies_21 (d_0 : Tapi_Discount) (x_1 : Tapi_Trip) (earlier_2 : Int) (r1 : Int) (h2 : tollwayref24_Check d_0 = some r1) (c3 : ¬ (r1 = (0 : Int))) : Ret Try.prog G0 27 [.agg (Tapi_Discount.enc d_0), .agg (Tapi_Trip.enc x_1), .int .i64 earlier_2] (.bool false) [] :=
  Ret.of_view 400 (cs 4 ((.ret none [.agg (Tapi_Discount.enc d_0)] (.int .i64 r1) []) :: (.op none .a) :: (.op none .c) :: (.op (some true) .c) :: (cs 4 [.br true, .op none .c]))) [] (ps := [((.agg (Tapi_Discount.enc d_0) : AV) = .agg (Tapi_Discount.enc d_0)), (Ret Try.prog G0 20 [.agg (Tapi_Discount.enc d_0)] (.int .i64 r1) []), ((!(r1 == (0 : Int))) = true), (true = true)]) (by kernel_rfl) (by kernel_rfl) ⟨rfl, (tollwayref24_Check_ret d_0 r1 h2), (not_t (beq_f c3)), ok1 rfl⟩
theorem tollwayref24_Applies_ret (d_0 : Tapi_Discount) (x_1 : Tapi_Trip) (earlier_2 : Int) (r : Bool) (h : tollwayref24_Applies d_0 x_1 earlier_2 = some r) : Ret Try.prog G0 27 [.agg (Tapi_Discount.enc d_0), .agg (Tapi_Trip.enc x_1), .int .i64 earlier_2] (.bool r) [] := by
  unfold tollwayref24_Applies at h
  obtain ⟨r1, h2, h⟩ := bind_some h
  rcases ite_some h with ⟨c3, h⟩ | ⟨c3, h⟩
  · rcases ite_some h with ⟨c4, h⟩ | ⟨c4, h⟩
    · simp only [Option.some.injEq] at h
      subst h
      exact tollwayref24_Applies_0 d_0 x_1 earlier_2 r1 h2 c3 c4
    · rcases ite_some h with ⟨c5, h⟩ | ⟨c5, h⟩
      · rcases ite_some h with ⟨c6, h⟩ | ⟨c6, h⟩
        · rcases ite_some h with ⟨c7, h⟩ | ⟨c7, h⟩
          · simp only [Option.some.injEq] at h
            subst h
            exact tollwayref24_Applies_1 d_0 x_1 earlier_2 r1 h2 c3 c4 c5 c6 c7
          · obtain ⟨x8, h9, h⟩ := bind_some h
            obtain ⟨r10, h11, h⟩ := bind_some h
            rcases ite_some h with ⟨c12, h⟩ | ⟨c12, h⟩
            · simp only [Option.some.injEq] at h
              subst h
              exact tollwayref24_Applies_2 d_0 x_1 earlier_2 r1 h2 c3 c4 c5 c6 c7 x8 h9 r10 h11 c12
            · simp only [Option.some.injEq] at h
              subst h
              exact tollwayref24_Applies_3 d_0 x_1 earlier_2 r1 h2 c3 c4 c5 c6 c7 x8 h9 r10 h11 c12
        · rcases ite_some h with ⟨c13, h⟩ | ⟨c13, h⟩
          · rcases ite_some h with ⟨c14, h⟩ | ⟨c14, h⟩
            · simp only [Option.some.injEq] at h
              subst h
              exact tollwayref24_Applies_4 d_0 x_1 earlier_2 r1 h2 c3 c4 c5 c6 c13 c14
            · simp only [Option.some.injEq] at h
              subst h
              exact tollwayref24_Applies_5 d_0 x_1 earlier_2 r1 h2 c3 c4 c5 c6 c13 c14
          · obtain ⟨x15, h16, h⟩ := bind_some h
            obtain ⟨r17, h18, h⟩ := bind_some h
            rcases ite_some h with ⟨c19, h⟩ | ⟨c19, h⟩
            · rcases ite_some h with ⟨c20, h⟩ | ⟨c20, h⟩
              · simp only [Option.some.injEq] at h
                subst h
                exact tollwayref24_Applies_6 d_0 x_1 earlier_2 r1 h2 c3 c4 c5 c6 c13 x15 h16 r17 h18 c19 c20
              · simp only [Option.some.injEq] at h
                subst h
                exact tollwayref24_Applies_7 d_0 x_1 earlier_2 r1 h2 c3 c4 c5 c6 c13 x15 h16 r17 h18 c19 c20
            · simp only [Option.some.injEq] at h
              subst h
              exact tollwayref24_Applies_8 d_0 x_1 earlier_2 r1 h2 c3 c4 c5 c6 c13 x15 h16 r17 h18 c19
      · rcases ite_some h with ⟨c21, h⟩ | ⟨c21, h⟩
        · rcases ite_some h with ⟨c22, h⟩ | ⟨c22, h⟩
          · rcases ite_some h with ⟨c23, h⟩ | ⟨c23, h⟩
            · simp only [Option.some.injEq] at h
              subst h
              exact tollwayref24_Applies_9 d_0 x_1 earlier_2 r1 h2 c3 c4 c5 c21 c22 c23
            · simp only [Option.some.injEq] at h
              subst h
              exact tollwayref24_Applies_10 d_0 x_1 earlier_2 r1 h2 c3 c4 c5 c21 c22 c23
          · obtain ⟨x24, h25, h⟩ := bind_some h
            obtain ⟨r26, h27, h⟩ := bind_some h
            rcases ite_some h with ⟨c28, h⟩ | ⟨c28, h⟩
            · rcases ite_some h with ⟨c29, h⟩ | ⟨c29, h⟩
              · simp only [Option.some.injEq] at h
                subst h
                exact tollwayref24_Applies_11 d_0 x_1 earlier_2 r1 h2 c3 c4 c5 c21 c22 x24 h25 r26 h27 c28 c29
              · simp only [Option.some.injEq] at h
                subst h
                exact tollwayref24_Applies_12 d_0 x_1 earlier_2 r1 h2 c3 c4 c5 c21 c22 x24 h25 r26 h27 c28 c29
            · simp only [Option.some.injEq] at h
              subst h
              exact tollwayref24_Applies_13 d_0 x_1 earlier_2 r1 h2 c3 c4 c5 c21 c22 x24 h25 r26 h27 c28
        · rcases ite_some h with ⟨c30, h⟩ | ⟨c30, h⟩
          · rcases ite_some h with ⟨c31, h⟩ | ⟨c31, h⟩
            · rcases ite_some h with ⟨c32, h⟩ | ⟨c32, h⟩
              · simp only [Option.some.injEq] at h
                subst h
                exact tollwayref24_Applies_14 d_0 x_1 earlier_2 r1 h2 c3 c4 c5 c21 c30 c31 c32
              · simp only [Option.some.injEq] at h
                subst h
                exact tollwayref24_Applies_15 d_0 x_1 earlier_2 r1 h2 c3 c4 c5 c21 c30 c31 c32
            · simp only [Option.some.injEq] at h
              subst h
              exact tollwayref24_Applies_16 d_0 x_1 earlier_2 r1 h2 c3 c4 c5 c21 c30 c31
          · obtain ⟨x33, h34, h⟩ := bind_some h
            obtain ⟨r35, h36, h⟩ := bind_some h
            rcases ite_some h with ⟨c37, h⟩ | ⟨c37, h⟩
            · rcases ite_some h with ⟨c38, h⟩ | ⟨c38, h⟩
              · rcases ite_some h with ⟨c39, h⟩ | ⟨c39, h⟩
                · simp only [Option.some.injEq] at h
                  subst h
                  exact tollwayref24_Applies_17 d_0 x_1 earlier_2 r1 h2 c3 c4 c5 c21 c30 x33 h34 r35 h36 c37 c38 c39
                · simp only [Option.some.injEq] at h
                  subst h
                  exact tollwayref24_Applies_18 d_0 x_1 earlier_2 r1 h2 c3 c4 c5 c21 c30 x33 h34 r35 h36 c37 c38 c39
              · simp only [Option.some.injEq] at h
                subst h
                exact tollwayref24_Applies_19 d_0 x_1 earlier_2 r1 h2 c3 c4 c5 c21 c30 x33 h34 r35 h36 c37 c38
            · simp only [Option.some.injEq] at h
              subst h
              exact tollwayref24_Applies_20 d_0 x_1 earlier_2 r1 h2 c3 c4 c5 c21 c30 x33 h34 r35 h36 c37
  · simp only [Option.some.injEq] at h
    subst h
    exact tollwayref24_Applies_21 d_0 x_1 earlier_2 r1 h2 c3
end Go.Proofs.Yteljonodbkkckaa.Av
