import Derived.Test.YtalobodhbbkgdabDoorAvX
import Derived.Test.YtalobodhbbkgdabDoorProg
import Derived.Tactics
import Derived.Test.YtalobodhbbkgdabDoorR3
import Derived.Test.YtalobodhbbkgdabDoorQ4
import Derived.Test.YtalobodhbbkgdabDoorQ8
import Derived.Test.YtalobodhbbkgdabDoorQ9
set_option linter.unusedVariables false
set_option linter.unusedSimpArgs false
set_option maxHeartbeats 4000000
namespace Go.Proofs.YtalobodhbbkgdabDoor.Av
open Go Go.Proofs
noncomputable def tollwaylaw52_TraceCharges (s_0 : Tapi_State) (key_1 : (List UInt8)) : Option Bool :=
  (tollwaylaw52_great s_0).bind fun r1 =>
  if r1 = true then
    (tollwaylaw52_awake).bind fun r4 =>
    some r4
  else
    (trace_Charge s_0 key_1).bind fun r6 =>
    (tollwayref52_Charge s_0 key_1).bind fun r8 =>
    (tollwayref52_Same r6.1 r8.1).bind fun r10 =>
    if r10 = true then
      if r6.2 = r8.2 then
        (tollwaylaw52_awake).bind fun r14 =>
        some r14
      else
        some false
    else
      some false
def tollwaylaw52_TraceCharges_h1 (s_0 : Tapi_State) (r1 : Bool) : List CH := (cs 3 [.ret none [.agg (Tapi_State.enc s_0)] (.bool r1) []])
def tollwaylaw52_TraceCharges_h2 (s_0 : Tapi_State) (key_1 : (List UInt8)) (r6 : ((List Tapi_Fact) × Int)) (r8 : ((List Tapi_Fact) × Int)) (r10 : Bool) : List CH := ((.br false) :: (cs 2 ((.ret none [.agg (Tapi_State.enc s_0), .str key_1] (.tup [.vec 0 r6.1.length 3, .int .i64 r6.2]) [{ c := (fl Tapi_Fact.enc r6.1), e := 81, ext := true, fz := 0, pl := true, o := true }]) :: (cs 7 ((.ret none [.agg (Tapi_State.enc s_0), .str key_1] (.tup [.vec 0 r8.1.length 3, .int .i64 r8.2]) [{ c := (fl Tapi_Fact.enc r8.1), e := 81, ext := true, fz := 0, pl := true, o := true }]) :: (cs 7 [.ret none [.lst (fl Tapi_Fact.enc r6.1) r6.1.length, .lst (fl Tapi_Fact.enc r8.1) r8.1.length] (.bool r10) [], .op none .c]))))))
def tollwaylaw52_TraceCharges_h3  : List CH := ((.op (some true) .c) :: (.op none .c) :: (.op none .a) :: (cs 2 []))
def tollwaylaw52_TraceCharges_p4 (s_0 : Tapi_State) (key_1 : (List UInt8)) (r1 : Bool) (r6 : ((List Tapi_Fact) × Int)) (r8 : ((List Tapi_Fact) × Int)) (r10 : Bool) : List Prop := [(r1 = false), ((.agg (Tapi_State.enc s_0) : AV) = .agg (Tapi_State.enc s_0)), ((.str key_1 : AV) = .str key_1), (Ret Tryd.prog GT 12 [.agg (Tapi_State.enc s_0), .str key_1] (.tup [.vec 0 r6.1.length 3, .int .i64 r6.2]) [{ c := (fl Tapi_Fact.enc r6.1), e := 81, ext := true, fz := 0, pl := true, o := true }]), ((.agg (Tapi_State.enc s_0) : AV) = .agg (Tapi_State.enc s_0)), ((.str key_1 : AV) = .str key_1), (Ret Tryd.prog GT 13 [.agg (Tapi_State.enc s_0), .str key_1] (.tup [.vec 0 r8.1.length 3, .int .i64 r8.2]) [{ c := (fl Tapi_Fact.enc r8.1), e := 81, ext := true, fz := 0, pl := true, o := true }]), ((fl Tapi_Fact.enc r6.1) = (fl Tapi_Fact.enc r6.1) ∧ r6.1.length = r6.1.length ∧ List.length ((fl Tapi_Fact.enc r6.1) : List AV) = (r6.1.length * 3)), ((fl Tapi_Fact.enc r8.1) = (fl Tapi_Fact.enc r8.1) ∧ r8.1.length = r8.1.length ∧ List.length ((fl Tapi_Fact.enc r8.1) : List AV) = (r8.1.length * 3)), (datBlks []), (Ret Tryd.prog GT 11 [.lst (fl Tapi_Fact.enc r6.1) r6.1.length, .lst (fl Tapi_Fact.enc r8.1) r8.1.length] (.bool r10) [])]
theorem tollwaylaw52_TraceCharges_p4q (s_0 : Tapi_State) (key_1 : (List UInt8)) (r1 : Bool) (c3 : ¬ (r1 = true)) (r6 : ((List Tapi_Fact) × Int)) (h7 : trace_Charge s_0 key_1 = some r6) (r8 : ((List Tapi_Fact) × Int)) (h9 : tollwayref52_Charge s_0 key_1 = some r8) (r10 : Bool) (h11 : tollwayref52_Same r6.1 r8.1 = some r10) : allOk (tollwaylaw52_TraceCharges_p4 s_0 key_1 r1 r6 r8 r10) := ⟨(eq_false_of_ne_true c3), rfl, rfl, (trace_Charge_ret s_0 key_1 r6 h7), rfl, rfl, (tollwayref52_Charge_ret s_0 key_1 r8 h9), ⟨rfl, rfl, (fl_length (f := Tapi_Fact.enc) (z := 3) (fun _ => rfl) _)⟩, ⟨rfl, rfl, (fl_length (f := Tapi_Fact.enc) (z := 3) (fun _ => rfl) _)⟩, trivial, ok1 (tollwayref52_Same_ret r6.1 r8.1 r10 h11)⟩
theorem tollwaylaw52_TraceCharges_0 (s_0 : Tapi_State) (key_1 : (List UInt8)) (r1 : Bool) (h2 : tollwaylaw52_great s_0 = some r1) (c3 : r1 = true) (r4 : Bool) (h5 : tollwaylaw52_awake = some r4) : Ret Tryd.prog GT 4 [.agg (Tapi_State.enc s_0), .str key_1] (.bool r4) [] :=
  Ret.of_view 400 ((tollwaylaw52_TraceCharges_h1 s_0 r1) ++ [.br true, .ret none [] (.bool r4) [], .op none .c]) [] (ps := ([((.agg (Tapi_State.enc s_0) : AV) = .agg (Tapi_State.enc s_0)), (Ret Tryd.prog GT 7 [.agg (Tapi_State.enc s_0)] (.bool r1) [])] ++ [(r1 = true), (Ret Tryd.prog GT 8 [] (.bool r4) [])])) (by kernel_rfl) (by kernel_rfl) (allOk_append.2 ⟨⟨rfl, ok1 (tollwaylaw52_great_ret s_0 r1 h2)⟩, ⟨c3, ok1 (tollwaylaw52_awake_ret r4 h5)⟩⟩)
theorem tollwaylaw52_TraceCharges_1 (s_0 : Tapi_State) (key_1 : (List UInt8)) (r1 : Bool) (h2 : tollwaylaw52_great s_0 = some r1) (c3 : ¬ (r1 = true)) (r6 : ((List Tapi_Fact) × Int)) (h7 : trace_Charge s_0 key_1 = some r6) (r8 : ((List Tapi_Fact) × Int)) (h9 : tollwayref52_Charge s_0 key_1 = some r8) (r10 : Bool) (h11 : tollwayref52_Same r6.1 r8.1 = some r10) (c12 : r10 = true) (c13 : r6.2 = r8.2) (r14 : Bool) (h15 : tollwaylaw52_awake = some r14) : Ret Tryd.prog GT 4 [.agg (Tapi_State.enc s_0), .str key_1] (.bool r14) [] :=
  Ret.of_view 400 ((tollwaylaw52_TraceCharges_h1 s_0 r1) ++ ((tollwaylaw52_TraceCharges_h2 s_0 key_1 r6 r8 r10) ++ ((tollwaylaw52_TraceCharges_h3) ++ ((.ret (some true) [] (.bool r14) []) :: (cs 2 []))))) [] (ps := ([((.agg (Tapi_State.enc s_0) : AV) = .agg (Tapi_State.enc s_0)), (Ret Tryd.prog GT 7 [.agg (Tapi_State.enc s_0)] (.bool r1) [])] ++ ((tollwaylaw52_TraceCharges_p4 s_0 key_1 r1 r6 r8 r10) ++ ([(r10 = true)] ++ [((r6.2 == r8.2) = true), (Ret Tryd.prog GT 8 [] (.bool r14) [])])))) (by kernel_rfl) (by kernel_rfl) (allOk_append.2 ⟨⟨rfl, ok1 (tollwaylaw52_great_ret s_0 r1 h2)⟩, (allOk_append.2 ⟨(tollwaylaw52_TraceCharges_p4q s_0 key_1 r1 c3 r6 h7 r8 h9 r10 h11), (allOk_append.2 ⟨(ok1 c12), ⟨(beq_t c13), ok1 (tollwaylaw52_awake_ret r14 h15)⟩⟩)⟩)⟩)
theorem tollwaylaw52_TraceCharges_2 (s_0 : Tapi_State) (key_1 : (List UInt8)) (r1 : Bool) (h2 : tollwaylaw52_great s_0 = some r1) (c3 : ¬ (r1 = true)) (r6 : ((List Tapi_Fact) × Int)) (h7 : trace_Charge s_0 key_1 = some r6) (r8 : ((List Tapi_Fact) × Int)) (h9 : tollwayref52_Charge s_0 key_1 = some r8) (r10 : Bool) (h11 : tollwayref52_Same r6.1 r8.1 = some r10) (c12 : r10 = true) (c13 : ¬ (r6.2 = r8.2)) : Ret Tryd.prog GT 4 [.agg (Tapi_State.enc s_0), .str key_1] (.bool false) [] :=
  Ret.of_view 400 ((tollwaylaw52_TraceCharges_h1 s_0 r1) ++ ((tollwaylaw52_TraceCharges_h2 s_0 key_1 r6 r8 r10) ++ ((tollwaylaw52_TraceCharges_h3) ++ ((.op (some false) .c) :: (cs 2 []))))) [] (ps := ([((.agg (Tapi_State.enc s_0) : AV) = .agg (Tapi_State.enc s_0)), (Ret Tryd.prog GT 7 [.agg (Tapi_State.enc s_0)] (.bool r1) [])] ++ ((tollwaylaw52_TraceCharges_p4 s_0 key_1 r1 r6 r8 r10) ++ ([(r10 = true)] ++ [((r6.2 == r8.2) = false)])))) (by kernel_rfl) (by kernel_rfl) (allOk_append.2 ⟨⟨rfl, ok1 (tollwaylaw52_great_ret s_0 r1 h2)⟩, (allOk_append.2 ⟨(tollwaylaw52_TraceCharges_p4q s_0 key_1 r1 c3 r6 h7 r8 h9 r10 h11), (allOk_append.2 ⟨(ok1 c12), (ok1 (beq_f c13))⟩)⟩)⟩)
theorem tollwaylaw52_TraceCharges_3 (s_0 : Tapi_State) (key_1 : (List UInt8)) (r1 : Bool) (h2 : tollwaylaw52_great s_0 = some r1) (c3 : ¬ (r1 = true)) (r6 : ((List Tapi_Fact) × Int)) (h7 : trace_Charge s_0 key_1 = some r6) (r8 : ((List Tapi_Fact) × Int)) (h9 : tollwayref52_Charge s_0 key_1 = some r8) (r10 : Bool) (h11 : tollwayref52_Same r6.1 r8.1 = some r10) (c12 : ¬ (r10 = true)) : Ret Tryd.prog GT 4 [.agg (Tapi_State.enc s_0), .str key_1] (.bool false) [] :=
  Ret.of_view 400 ((tollwaylaw52_TraceCharges_h1 s_0 r1) ++ ((tollwaylaw52_TraceCharges_h2 s_0 key_1 r6 r8 r10) ++ ((.op (some false) .c) :: (cs 7 [])))) [] (ps := ([((.agg (Tapi_State.enc s_0) : AV) = .agg (Tapi_State.enc s_0)), (Ret Tryd.prog GT 7 [.agg (Tapi_State.enc s_0)] (.bool r1) [])] ++ ((tollwaylaw52_TraceCharges_p4 s_0 key_1 r1 r6 r8 r10) ++ [(r10 = false)]))) (by kernel_rfl) (by kernel_rfl) (allOk_append.2 ⟨⟨rfl, ok1 (tollwaylaw52_great_ret s_0 r1 h2)⟩, (allOk_append.2 ⟨(tollwaylaw52_TraceCharges_p4q s_0 key_1 r1 c3 r6 h7 r8 h9 r10 h11), (ok1 (eq_false_of_ne_true c12))⟩)⟩)
theorem tollwaylaw52_TraceCharges_ret (s_0 : Tapi_State) (key_1 : (List UInt8)) (r : Bool) (h : tollwaylaw52_TraceCharges s_0 key_1 = some r) : Ret Tryd.prog GT 4 [.agg (Tapi_State.enc s_0), .str key_1] (.bool r) [] := by
  unfold tollwaylaw52_TraceCharges at h
  obtain ⟨r1, h2, h⟩ := bind_some h
  rcases ite_some h with ⟨c3, h⟩ | ⟨c3, h⟩
  · obtain ⟨r4, h5, h⟩ := bind_some h
    simp only [Option.some.injEq] at h
    subst h
    exact tollwaylaw52_TraceCharges_0 s_0 key_1 r1 h2 c3 r4 h5
  · obtain ⟨r6, h7, h⟩ := bind_some h
    obtain ⟨r8, h9, h⟩ := bind_some h
    obtain ⟨r10, h11, h⟩ := bind_some h
    rcases ite_some h with ⟨c12, h⟩ | ⟨c12, h⟩
    · rcases ite_some h with ⟨c13, h⟩ | ⟨c13, h⟩
      · obtain ⟨r14, h15, h⟩ := bind_some h
        simp only [Option.some.injEq] at h
        subst h
        exact tollwaylaw52_TraceCharges_1 s_0 key_1 r1 h2 c3 r6 h7 r8 h9 r10 h11 c12 c13 r14 h15
      · simp only [Option.some.injEq] at h
        subst h
        exact tollwaylaw52_TraceCharges_2 s_0 key_1 r1 h2 c3 r6 h7 r8 h9 r10 h11 c12 c13
    · simp only [Option.some.injEq] at h
      subst h
      exact tollwaylaw52_TraceCharges_3 s_0 key_1 r1 h2 c3 r6 h7 r8 h9 r10 h11 c12
end Go.Proofs.YtalobodhbbkgdabDoor.Av
