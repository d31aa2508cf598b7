import Derived.Test.YteljonodbkkckaaDoorAvX
import Derived.Test.YteljonodbkkckaaDoorProg
import Derived.Tactics
import Derived.Test.YteljonodbkkckaaDoorAwM
import Derived.Test.YteljonodbkkckaaDoorE0
import Derived.Test.YteljonodbkkckaaDoorE1
import Derived.Test.YteljonodbkkckaaDoorES
import Derived.Test.YteljonodbkkckaaDoorER
set_option linter.unusedVariables false
set_option linter.unusedSimpArgs false
set_option maxHeartbeats 4000000
namespace Go.Proofs.YteljonodbkkckaaDoor.Av
open Go Go.Proofs
noncomputable def tollwaylaw03_MoneySplits (total_0 : Int) (weights_1 : (List Int)) : Option Bool :=
  if (↑weights_1.length : Int) > (1100 : Int) then
    (awakeF).bind fun r2 =>
    some r2
  else
    (money_Split total_0 weights_1).bind fun r4 =>
    (tollwayref03_Split total_0 weights_1).bind fun r6 =>
    (tollwaylaw03_same r4.1 r6.1).bind fun r8 =>
    if r8 = true then
      if r4.2 = r6.2 then
        (awakeF).bind fun r12 =>
        some r12
      else
        some false
    else
      some false
theorem tollwaylaw03_MoneySplits_0 (total_0 : Int) (weights_1 : (List Int)) (c1 : (↑weights_1.length : Int) > (1100 : Int)) (r2 : Bool) (h3 : awakeF = some r2) : Ret Tryd.prog G0 4 [.int .i64 total_0, .lst (fl e_i64 weights_1) weights_1.length] (.bool r2) [] :=
  Ret.of_view 400 (cs 3 [.op none .a, .br true, .ret none [] (.bool r2) [], .op none .c]) [] (ps := [((decide ((↑weights_1.length : Int) > (1100 : Int))) = true), (Ret Tryd.prog G0 8 [] (.bool r2) [])]) (by kernel_rfl) (by kernel_rfl) ⟨(decide_eq_true c1), ok1 (awake_ret r2 h3)⟩
theorem tollwaylaw03_MoneySplits_1 (total_0 : Int) (weights_1 : (List Int)) (c1 : ¬ ((↑weights_1.length : Int) > (1100 : Int))) (r4 : ((List Int) × Int)) (h5 : money_Split total_0 weights_1 = some r4) (r6 : ((List Int) × Int)) (h7 : tollwayref03_Split total_0 weights_1 = some r6) (r8 : Bool) (h9 : tollwaylaw03_same r4.1 r6.1 = some r8) (c10 : r8 = true) (c11 : r4.2 = r6.2) (r12 : Bool) (h13 : awakeF = some r12) : Ret Tryd.prog G0 4 [.int .i64 total_0, .lst (fl e_i64 weights_1) weights_1.length] (.bool r12) [] :=
  Ret.of_view 400 (cs 3 ((.op none .a) :: (.br false) :: (cs 2 ((.ret none [.int .i64 total_0, .lst (fl e_i64 weights_1) weights_1.length] (.tup [.vec 0 r4.1.length 1, .int .i64 r4.2]) [{ c := (fl e_i64 r4.1), e := 3, ext := true, fz := 0, pl := true, o := true }]) :: (cs 7 ((.ret none [.int .i64 total_0, .lst (fl e_i64 weights_1) weights_1.length] (.tup [.vec 0 r6.1.length 1, .int .i64 r6.2]) [{ c := (fl e_i64 r6.1), e := 3, ext := true, fz := 0, pl := true, o := true }]) :: (cs 7 ((.ret none [.lst (fl e_i64 r4.1) r4.1.length, .lst (fl e_i64 r6.1) r6.1.length] (.bool r8) []) :: (.op none .c) :: (.op (some true) .c) :: (.op none .c) :: (.op none .a) :: (cs 2 ((.ret (some true) [] (.bool r12) []) :: (cs 2 []))))))))))) [] (ps := [((decide ((↑weights_1.length : Int) > (1100 : Int))) = false), ((.int .i64 total_0 : AV) = .int .i64 total_0), ((.lst (fl e_i64 weights_1) weights_1.length : AV) = .lst (fl e_i64 weights_1) weights_1.length), (Ret Tryd.prog G0 9 [.int .i64 total_0, .lst (fl e_i64 weights_1) weights_1.length] (.tup [.vec 0 r4.1.length 1, .int .i64 r4.2]) [{ c := (fl e_i64 r4.1), e := 3, ext := true, fz := 0, pl := true, o := true }]), ((.int .i64 total_0 : AV) = .int .i64 total_0), ((.lst (fl e_i64 weights_1) weights_1.length : AV) = .lst (fl e_i64 weights_1) weights_1.length), (Ret Tryd.prog G0 10 [.int .i64 total_0, .lst (fl e_i64 weights_1) weights_1.length] (.tup [.vec 0 r6.1.length 1, .int .i64 r6.2]) [{ c := (fl e_i64 r6.1), e := 3, ext := true, fz := 0, pl := true, o := true }]), ((fl e_i64 r4.1) = (fl e_i64 r4.1) ∧ r4.1.length = r4.1.length ∧ List.length ((fl e_i64 r4.1) : List AV) = r4.1.length), ((fl e_i64 r6.1) = (fl e_i64 r6.1) ∧ r6.1.length = r6.1.length ∧ List.length ((fl e_i64 r6.1) : List AV) = r6.1.length), (datBlks []), (Ret Tryd.prog G0 11 [.lst (fl e_i64 r4.1) r4.1.length, .lst (fl e_i64 r6.1) r6.1.length] (.bool r8) []), (r8 = true), ((r4.2 == r6.2) = true), (Ret Tryd.prog G0 8 [] (.bool r12) [])]) (by kernel_rfl) (by kernel_rfl) ⟨(decide_eq_false c1), rfl, rfl, (money_Split_ret total_0 weights_1 r4 h5), rfl, rfl, (tollwayref03_Split_ret total_0 weights_1 r6 h7), ⟨rfl, rfl, (fl_length1 (f := e_i64) (fun _ => rfl) _)⟩, ⟨rfl, rfl, (fl_length1 (f := e_i64) (fun _ => rfl) _)⟩, trivial, (tollwaylaw03_same_ret r4.1 r6.1 r8 h9), c10, (beq_t c11), ok1 (awake_ret r12 h13)⟩
theorem tollwaylaw03_MoneySplits_2 (total_0 : Int) (weights_1 : (List Int)) (c1 : ¬ ((↑weights_1.length : Int) > (1100 : Int))) (r4 : ((List Int) × Int)) (h5 : money_Split total_0 weights_1 = some r4) (r6 : ((List Int) × Int)) (h7 : tollwayref03_Split total_0 weights_1 = some r6) (r8 : Bool) (h9 : tollwaylaw03_same r4.1 r6.1 = some r8) (c10 : r8 = true) (c11 : ¬ (r4.2 = r6.2)) : Ret Tryd.prog G0 4 [.int .i64 total_0, .lst (fl e_i64 weights_1) weights_1.length] (.bool false) [] :=
  Ret.of_view 400 (cs 3 ((.op none .a) :: (.br false) :: (cs 2 ((.ret none [.int .i64 total_0, .lst (fl e_i64 weights_1) weights_1.length] (.tup [.vec 0 r4.1.length 1, .int .i64 r4.2]) [{ c := (fl e_i64 r4.1), e := 3, ext := true, fz := 0, pl := true, o := true }]) :: (cs 7 ((.ret none [.int .i64 total_0, .lst (fl e_i64 weights_1) weights_1.length] (.tup [.vec 0 r6.1.length 1, .int .i64 r6.2]) [{ c := (fl e_i64 r6.1), e := 3, ext := true, fz := 0, pl := true, o := true }]) :: (cs 7 ((.ret none [.lst (fl e_i64 r4.1) r4.1.length, .lst (fl e_i64 r6.1) r6.1.length] (.bool r8) []) :: (.op none .c) :: (.op (some true) .c) :: (.op none .c) :: (.op none .a) :: (cs 2 ((.op (some false) .c) :: (cs 2 []))))))))))) [] (ps := [((decide ((↑weights_1.length : Int) > (1100 : Int))) = false), ((.int .i64 total_0 : AV) = .int .i64 total_0), ((.lst (fl e_i64 weights_1) weights_1.length : AV) = .lst (fl e_i64 weights_1) weights_1.length), (Ret Tryd.prog G0 9 [.int .i64 total_0, .lst (fl e_i64 weights_1) weights_1.length] (.tup [.vec 0 r4.1.length 1, .int .i64 r4.2]) [{ c := (fl e_i64 r4.1), e := 3, ext := true, fz := 0, pl := true, o := true }]), ((.int .i64 total_0 : AV) = .int .i64 total_0), ((.lst (fl e_i64 weights_1) weights_1.length : AV) = .lst (fl e_i64 weights_1) weights_1.length), (Ret Tryd.prog G0 10 [.int .i64 total_0, .lst (fl e_i64 weights_1) weights_1.length] (.tup [.vec 0 r6.1.length 1, .int .i64 r6.2]) [{ c := (fl e_i64 r6.1), e := 3, ext := true, fz := 0, pl := true, o := true }]), ((fl e_i64 r4.1) = (fl e_i64 r4.1) ∧ r4.1.length = r4.1.length ∧ List.length ((fl e_i64 r4.1) : List AV) = r4.1.length), ((fl e_i64 r6.1) = (fl e_i64 r6.1) ∧ r6.1.length = r6.1.length ∧ List.length ((fl e_i64 r6.1) : List AV) = r6.1.length), (datBlks []), (Ret Tryd.prog G0 11 [.lst (fl e_i64 r4.1) r4.1.length, .lst (fl e_i64 r6.1) r6.1.length] (.bool r8) []), (r8 = true), ((r4.2 == r6.2) = false)]) (by kernel_rfl) (by kernel_rfl) ⟨(decide_eq_false c1), rfl, rfl, (money_Split_ret total_0 weights_1 r4 h5), rfl, rfl, (tollwayref03_Split_ret total_0 weights_1 r6 h7), ⟨rfl, rfl, (fl_length1 (f := e_i64) (fun _ => rfl) _)⟩, ⟨rfl, rfl, (fl_length1 (f := e_i64) (fun _ => rfl) _)⟩, trivial, (tollwaylaw03_same_ret r4.1 r6.1 r8 h9), c10, ok1 (beq_f c11)⟩
theorem tollwaylaw03_MoneySplits_3 (total_0 : Int) (weights_1 : (List Int)) (c1 : ¬ ((↑weights_1.length : Int) > (1100 : Int))) (r4 : ((List Int) × Int)) (h5 : money_Split total_0 weights_1 = some r4) (r6 : ((List Int) × Int)) (h7 : tollwayref03_Split total_0 weights_1 = some r6) (r8 : Bool) (h9 : tollwaylaw03_same r4.1 r6.1 = some r8) (c10 : ¬ (r8 = true)) : Ret Tryd.prog G0 4 [.int .i64 total_0, .lst (fl e_i64 weights_1) weights_1.length] (.bool false) [] :=
  Ret.of_view 400 (cs 3 ((.op none .a) :: (.br false) :: (cs 2 ((.ret none [.int .i64 total_0, .lst (fl e_i64 weights_1) weights_1.length] (.tup [.vec 0 r4.1.length 1, .int .i64 r4.2]) [{ c := (fl e_i64 r4.1), e := 3, ext := true, fz := 0, pl := true, o := true }]) :: (cs 7 ((.ret none [.int .i64 total_0, .lst (fl e_i64 weights_1) weights_1.length] (.tup [.vec 0 r6.1.length 1, .int .i64 r6.2]) [{ c := (fl e_i64 r6.1), e := 3, ext := true, fz := 0, pl := true, o := true }]) :: (cs 7 ((.ret none [.lst (fl e_i64 r4.1) r4.1.length, .lst (fl e_i64 r6.1) r6.1.length] (.bool r8) []) :: (.op none .c) :: (.op (some false) .c) :: (cs 7 []))))))))) [] (ps := [((decide ((↑weights_1.length : Int) > (1100 : Int))) = false), ((.int .i64 total_0 : AV) = .int .i64 total_0), ((.lst (fl e_i64 weights_1) weights_1.length : AV) = .lst (fl e_i64 weights_1) weights_1.length), (Ret Tryd.prog G0 9 [.int .i64 total_0, .lst (fl e_i64 weights_1) weights_1.length] (.tup [.vec 0 r4.1.length 1, .int .i64 r4.2]) [{ c := (fl e_i64 r4.1), e := 3, ext := true, fz := 0, pl := true, o := true }]), ((.int .i64 total_0 : AV) = .int .i64 total_0), ((.lst (fl e_i64 weights_1) weights_1.length : AV) = .lst (fl e_i64 weights_1) weights_1.length), (Ret Tryd.prog G0 10 [.int .i64 total_0, .lst (fl e_i64 weights_1) weights_1.length] (.tup [.vec 0 r6.1.length 1, .int .i64 r6.2]) [{ c := (fl e_i64 r6.1), e := 3, ext := true, fz := 0, pl := true, o := true }]), ((fl e_i64 r4.1) = (fl e_i64 r4.1) ∧ r4.1.length = r4.1.length ∧ List.length ((fl e_i64 r4.1) : List AV) = r4.1.length), ((fl e_i64 r6.1) = (fl e_i64 r6.1) ∧ r6.1.length = r6.1.length ∧ List.length ((fl e_i64 r6.1) : List AV) = r6.1.length), (datBlks []), (Ret Tryd.prog G0 11 [.lst (fl e_i64 r4.1) r4.1.length, .lst (fl e_i64 r6.1) r6.1.length] (.bool r8) []), (r8 = false)]) (by kernel_rfl) (by kernel_rfl) ⟨(decide_eq_false c1), rfl, rfl, (money_Split_ret total_0 weights_1 r4 h5), rfl, rfl, (tollwayref03_Split_ret total_0 weights_1 r6 h7), ⟨rfl, rfl, (fl_length1 (f := e_i64) (fun _ => rfl) _)⟩, ⟨rfl, rfl, (fl_length1 (f := e_i64) (fun _ => rfl) _)⟩, trivial, (tollwaylaw03_same_ret r4.1 r6.1 r8 h9), ok1 (eq_false_of_ne_true c10)⟩
theorem tollwaylaw03_MoneySplits_ret (total_0 : Int) (weights_1 : (List Int)) (r : Bool) (h : tollwaylaw03_MoneySplits total_0 weights_1 = some r) : Ret Tryd.prog G0 4 [.int .i64 total_0, .lst (fl e_i64 weights_1) weights_1.length] (.bool r) [] := by
  unfold tollwaylaw03_MoneySplits at h
  rcases ite_some h with ⟨c1, h⟩ | ⟨c1, h⟩
  · obtain ⟨r2, h3, h⟩ := bind_some h
    simp only [Option.some.injEq] at h
    subst h
    exact tollwaylaw03_MoneySplits_0 total_0 weights_1 c1 r2 h3
  · obtain ⟨r4, h5, h⟩ := bind_some h
    obtain ⟨r6, h7, h⟩ := bind_some h
    obtain ⟨r8, h9, h⟩ := bind_some h
    rcases ite_some h with ⟨c10, h⟩ | ⟨c10, h⟩
    · rcases ite_some h with ⟨c11, h⟩ | ⟨c11, h⟩
      · obtain ⟨r12, h13, h⟩ := bind_some h
        simp only [Option.some.injEq] at h
        subst h
        exact tollwaylaw03_MoneySplits_1 total_0 weights_1 c1 r4 h5 r6 h7 r8 h9 c10 c11 r12 h13
      · simp only [Option.some.injEq] at h
        subst h
        exact tollwaylaw03_MoneySplits_2 total_0 weights_1 c1 r4 h5 r6 h7 r8 h9 c10 c11
    · simp only [Option.some.injEq] at h
      subst h
      exact tollwaylaw03_MoneySplits_3 total_0 weights_1 c1 r4 h5 r6 h7 r8 h9 c10
end Go.Proofs.YteljonodbkkckaaDoor.Av
