import Derived.Test.YteljonodbkkckaaAvX
import Derived.Test.YteljonodbkkckaaProg
import Derived.Tactics
import Derived.Test.YteljonodbkkckaaAwk
import Derived.Test.YteljonodbkkckaaB0
import Derived.Test.YteljonodbkkckaaB1
import Derived.Test.YteljonodbkkckaaB2
set_option linter.unusedVariables false
set_option linter.unusedSimpArgs false
set_option maxHeartbeats 4000000
namespace Go.Proofs.Yteljonodbkkckaa.Av
open Go Go.Proofs
noncomputable def tollwaylaw49_StoreSaves (s_0 : Tapi_State) : Option Bool :=
  (tollwaylaw49_great s_0).bind fun r1 =>
  if r1 = true then
    (awakeF).bind fun r4 =>
    some r4
  else
    (store_Save s_0).bind fun r6 =>
    (tollwayref49_Save s_0).bind fun r8 =>
    (tollwayref02_Same r6 r8).bind fun r10 =>
    if r10 = true then
      (awakeF).bind fun r13 =>
      some r13
    else
      some false
theorem tollwaylaw49_StoreSaves_0 (s_0 : Tapi_State) (r1 : Bool) (h2 : tollwaylaw49_great s_0 = some r1) (c3 : r1 = true) (r4 : Bool) (h5 : awakeF = some r4) : Ret Try.prog G0 3 [.agg (Tapi_State.enc s_0)] (.bool r4) [] :=
  Ret.of_view 400 (cs 3 [.ret none [.agg (Tapi_State.enc s_0)] (.bool r1) [], .br true, .ret none [] (.bool r4) [], .op none .c]) [] (ps := [((.agg (Tapi_State.enc s_0) : AV) = .agg (Tapi_State.enc s_0)), (Ret Try.prog G0 12 [.agg (Tapi_State.enc s_0)] (.bool r1) []), (r1 = true), (Ret Try.prog G0 13 [] (.bool r4) [])]) (by kernel_rfl) (by kernel_rfl) ⟨rfl, (tollwaylaw49_great_ret s_0 r1 h2), c3, ok1 (awake49_ret r4 h5)⟩
theorem tollwaylaw49_StoreSaves_1 (s_0 : Tapi_State) (r1 : Bool) (h2 : tollwaylaw49_great s_0 = some r1) (c3 : ¬ (r1 = true)) (r6 : (List UInt8)) (h7 : store_Save s_0 = some r6) (r8 : (List UInt8)) (h9 : tollwayref49_Save s_0 = some r8) (r10 : Bool) (h11 : tollwayref02_Same r6 r8 = some r10) (c12 : r10 = true) (r13 : Bool) (h14 : awakeF = some r13) : Ret Try.prog G0 3 [.agg (Tapi_State.enc s_0)] (.bool r13) [] :=
  Ret.of_view 400 (cs 3 [.ret none [.agg (Tapi_State.enc s_0)] (.bool r1) [], .br false, .op none .c, .ret none [.agg (Tapi_State.enc s_0)] (.lst (u8s r6) r6.length) [], .op none .c, .ret none [.agg (Tapi_State.enc s_0)] (.vec 0 r8.length 1) [{ c := (u8s r8), e := 5, ext := true, fz := 0, pl := true, o := true }], .ret none [.lst (u8s r6) r6.length, .lst (u8s r8) r8.length] (.bool r10) [], .op none .c, .ret (some true) [] (.bool r13) [], .op none (.b true), .op none .c]) [] (ps := [((.agg (Tapi_State.enc s_0) : AV) = .agg (Tapi_State.enc s_0)), (Ret Try.prog G0 12 [.agg (Tapi_State.enc s_0)] (.bool r1) []), (r1 = false), ((.agg (Tapi_State.enc s_0) : AV) = .agg (Tapi_State.enc s_0)), (Ret Try.prog G0 15 [.agg (Tapi_State.enc s_0)] (.lst (u8s r6) r6.length) []), ((.agg (Tapi_State.enc s_0) : AV) = .agg (Tapi_State.enc s_0)), (Ret Try.prog G0 16 [.agg (Tapi_State.enc s_0)] (.vec 0 r8.length 1) [{ c := (u8s r8), e := 5, ext := true, fz := 0, pl := true, o := true }]), ((.lst (u8s r6) r6.length : AV) = .lst (u8s r6) r6.length), ((u8s r8) = (u8s r8) ∧ r8.length = r8.length ∧ List.length ((u8s r8) : List AV) = r8.length), (datBlks []), (Ret Try.prog G0 14 [.lst (u8s r6) r6.length, .lst (u8s r8) r8.length] (.bool r10) []), ((some (Ob.blk { c := (u8s r8), e := 5, ext := true, fz := 0, pl := true, o := true }) = some (Ob.blk { c := (u8s r8), e := 5, ext := true, fz := 0, pl := true, o := true })) ∧ True), (r10 = true), (Ret Try.prog G0 13 [] (.bool r13) []), (r10 = true)]) (by kernel_rfl) (by kernel_rfl) ⟨rfl, (tollwaylaw49_great_ret s_0 r1 h2), (eq_false_of_ne_true c3), rfl, (store_Save_ret s_0 r6 h7), rfl, (tollwayref49_Save_ret s_0 r8 h9), rfl, ⟨rfl, rfl, u8s_length⟩, trivial, (tollwayref02_Same_ret r6 r8 r10 h11), ⟨rfl, trivial⟩, c12, (awake49_ret r13 h14), ok1 c12⟩
theorem tollwaylaw49_StoreSaves_2 (s_0 : Tapi_State) (r1 : Bool) (h2 : tollwaylaw49_great s_0 = some r1) (c3 : ¬ (r1 = true)) (r6 : (List UInt8)) (h7 : store_Save s_0 = some r6) (r8 : (List UInt8)) (h9 : tollwayref49_Save s_0 = some r8) (r10 : Bool) (h11 : tollwayref02_Same r6 r8 = some r10) (c12 : ¬ (r10 = true)) : Ret Try.prog G0 3 [.agg (Tapi_State.enc s_0)] (.bool false) [] :=
  Ret.of_view 400 (cs 3 [.ret none [.agg (Tapi_State.enc s_0)] (.bool r1) [], .br false, .op none .c, .ret none [.agg (Tapi_State.enc s_0)] (.lst (u8s r6) r6.length) [], .op none .c, .ret none [.agg (Tapi_State.enc s_0)] (.vec 0 r8.length 1) [{ c := (u8s r8), e := 5, ext := true, fz := 0, pl := true, o := true }], .ret none [.lst (u8s r6) r6.length, .lst (u8s r8) r8.length] (.bool r10) [], .op none .c, .op (some false) .c, .op none (.b false), .op none .c]) [] (ps := [((.agg (Tapi_State.enc s_0) : AV) = .agg (Tapi_State.enc s_0)), (Ret Try.prog G0 12 [.agg (Tapi_State.enc s_0)] (.bool r1) []), (r1 = false), ((.agg (Tapi_State.enc s_0) : AV) = .agg (Tapi_State.enc s_0)), (Ret Try.prog G0 15 [.agg (Tapi_State.enc s_0)] (.lst (u8s r6) r6.length) []), ((.agg (Tapi_State.enc s_0) : AV) = .agg (Tapi_State.enc s_0)), (Ret Try.prog G0 16 [.agg (Tapi_State.enc s_0)] (.vec 0 r8.length 1) [{ c := (u8s r8), e := 5, ext := true, fz := 0, pl := true, o := true }]), ((.lst (u8s r6) r6.length : AV) = .lst (u8s r6) r6.length), ((u8s r8) = (u8s r8) ∧ r8.length = r8.length ∧ List.length ((u8s r8) : List AV) = r8.length), (datBlks []), (Ret Try.prog G0 14 [.lst (u8s r6) r6.length, .lst (u8s r8) r8.length] (.bool r10) []), ((some (Ob.blk { c := (u8s r8), e := 5, ext := true, fz := 0, pl := true, o := true }) = some (Ob.blk { c := (u8s r8), e := 5, ext := true, fz := 0, pl := true, o := true })) ∧ True), (r10 = false), (r10 = false)]) (by kernel_rfl) (by kernel_rfl) ⟨rfl, (tollwaylaw49_great_ret s_0 r1 h2), (eq_false_of_ne_true c3), rfl, (store_Save_ret s_0 r6 h7), rfl, (tollwayref49_Save_ret s_0 r8 h9), rfl, ⟨rfl, rfl, u8s_length⟩, trivial, (tollwayref02_Same_ret r6 r8 r10 h11), ⟨rfl, trivial⟩, (eq_false_of_ne_true c12), ok1 (eq_false_of_ne_true c12)⟩
theorem tollwaylaw49_StoreSaves_ret (s_0 : Tapi_State) (r : Bool) (h : tollwaylaw49_StoreSaves s_0 = some r) : Ret Try.prog G0 3 [.agg (Tapi_State.enc s_0)] (.bool r) [] := by
  unfold tollwaylaw49_StoreSaves at h
  obtain ⟨r1, h2, h⟩ := bind_some h
  rcases ite_some h with ⟨c3, h⟩ | ⟨c3, h⟩
  · obtain ⟨r4, h5, h⟩ := bind_some h
    simp only [Option.some.injEq] at h
    subst h
    exact tollwaylaw49_StoreSaves_0 s_0 r1 h2 c3 r4 h5
  · obtain ⟨r6, h7, h⟩ := bind_some h
    obtain ⟨r8, h9, h⟩ := bind_some h
    obtain ⟨r10, h11, h⟩ := bind_some h
    rcases ite_some h with ⟨c12, h⟩ | ⟨c12, h⟩
    · obtain ⟨r13, h14, h⟩ := bind_some h
      simp only [Option.some.injEq] at h
      subst h
      exact tollwaylaw49_StoreSaves_1 s_0 r1 h2 c3 r6 h7 r8 h9 r10 h11 c12 r13 h14
    · simp only [Option.some.injEq] at h
      subst h
      exact tollwaylaw49_StoreSaves_2 s_0 r1 h2 c3 r6 h7 r8 h9 r10 h11 c12
end Go.Proofs.Yteljonodbkkckaa.Av
