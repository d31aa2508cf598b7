import Derived.Test.YtpadimnchmghpaaGreatDoorAvZ
import Derived.Test.YtpadimnchmghpaaGreatDoorProg
import Derived.Tactics
import Derived.Test.YtpadimnchmghpaaGreatDoorW0
set_option linter.unusedVariables false
set_option linter.unusedSimpArgs false
set_option maxHeartbeats 4000000
namespace Go.Proofs.YtpadimnchmghpaaGreatDoor.Av
open Go Go.Proofs
noncomputable def tollwaylaw50_AuditLeaves (l_0 : (List Tapi_Charge)) : Option Bool :=
  (tollwaylaw50_few l_0).bind fun r1 =>
  if r1 = true then
    (audit_Leaves l_0).bind fun r4 =>
    (tollwayref50_Leaves l_0).bind fun r6 =>
    (tollwayref08_Same r4 r6).bind fun r8 =>
    if r8 = true then
      (tollwaylaw50_awake).bind fun r11 =>
      some r11
    else
      none
  else
    (tollwaylaw50_awake).bind fun r13 =>
    some r13
def tollwaylaw50_AuditLeaves_h1 (l_0 : (List Tapi_Charge)) (r1 : Bool) : List CH := (cs 2 [.ret none [.lst (fl Tapi_Charge.enc l_0) l_0.length] (.bool r1) [], .op none .c])
theorem tollwaylaw50_AuditLeaves_0 (l_0 : (List Tapi_Charge)) (r1 : Bool) (h2 : tollwaylaw50_few l_0 = some r1) (c3 : r1 = true) (r4 : (List Int)) (h5 : audit_Leaves l_0 = some r4) (r6 : (List Int)) (h7 : tollwayref50_Leaves l_0 = some r6) (r8 : Bool) (h9 : tollwayref08_Same r4 r6 = some r8) (c10 : r8 = true) (r11 : Bool) (h12 : tollwaylaw50_awake = some r11) : Ret Tryz.prog G0 3 [.lst (fl Tapi_Charge.enc l_0) l_0.length] (.bool r11) [] :=
  Ret.of_view 400 ((tollwaylaw50_AuditLeaves_h1 l_0 r1) ++ ((.br false) :: (.op none .c) :: (.ret none [.lst (fl Tapi_Charge.enc l_0) l_0.length] (.vec 0 r4.length 1) [(bV (fl e_u64 r4) 41)]) :: (.op none .c) :: (.ret none [.lst (fl Tapi_Charge.enc l_0) l_0.length] (.vec 0 r6.length 1) [(bV (fl e_u64 r6) 41)]) :: (.ret none [.lst (fl e_u64 r4) r4.length, .lst (fl e_u64 r6) r6.length] (.bool r8) []) :: (.op none .c) :: (.ret (some true) [] (.bool r11) []) :: (cs 2 []))) [] (ps := ([((.lst (fl Tapi_Charge.enc l_0) l_0.length : AV) = .lst (fl Tapi_Charge.enc l_0) l_0.length), (Ret Tryz.prog G0 10 [.lst (fl Tapi_Charge.enc l_0) l_0.length] (.bool r1) [])] ++ [((!r1) = false), ((.lst (fl Tapi_Charge.enc l_0) l_0.length : AV) = .lst (fl Tapi_Charge.enc l_0) l_0.length), (Ret Tryz.prog G0 13 [.lst (fl Tapi_Charge.enc l_0) l_0.length] (.vec 0 r4.length 1) [(bV (fl e_u64 r4) 41)]), ((.lst (fl Tapi_Charge.enc l_0) l_0.length : AV) = .lst (fl Tapi_Charge.enc l_0) l_0.length), (Ret Tryz.prog G0 14 [.lst (fl Tapi_Charge.enc l_0) l_0.length] (.vec 0 r6.length 1) [(bV (fl e_u64 r6) 41)]), ((fl e_u64 r4) = (fl e_u64 r4) ∧ r4.length = r4.length ∧ List.length ((fl e_u64 r4) : List AV) = r4.length), ((fl e_u64 r6) = (fl e_u64 r6) ∧ r6.length = r6.length ∧ List.length ((fl e_u64 r6) : List AV) = r6.length), (datBlks []), (Ret Tryz.prog G0 12 [.lst (fl e_u64 r4) r4.length, .lst (fl e_u64 r6) r6.length] (.bool r8) []), (r8 = true), (Ret Tryz.prog G0 11 [] (.bool r11) [])])) (by kernel_rfl) (by kernel_rfl) (allOk_append.2 ⟨⟨rfl, ok1 (tollwaylaw50_few_ret l_0 r1 h2)⟩, ⟨(not_f c3), rfl, (audit_Leaves_ret l_0 r4 h5), rfl, (tollwayref50_Leaves_ret l_0 r6 h7), ⟨rfl, rfl, (fl_length1 (f := e_u64) (fun _ => rfl) _)⟩, ⟨rfl, rfl, (fl_length1 (f := e_u64) (fun _ => rfl) _)⟩, trivial, (tollwayref08_Same_ret r4 r6 r8 h9), c10, ok1 (tollwaylaw50_awake_ret r11 h12)⟩⟩)
theorem tollwaylaw50_AuditLeaves_2 (l_0 : (List Tapi_Charge)) (r1 : Bool) (h2 : tollwaylaw50_few l_0 = some r1) (c3 : ¬ (r1 = true)) (r13 : Bool) (h14 : tollwaylaw50_awake = some r13) : Ret Tryz.prog G0 3 [.lst (fl Tapi_Charge.enc l_0) l_0.length] (.bool r13) [] :=
  Ret.of_view 400 ((tollwaylaw50_AuditLeaves_h1 l_0 r1) ++ [.br true, .ret none [] (.bool r13) [], .op none .c]) [] (ps := ([((.lst (fl Tapi_Charge.enc l_0) l_0.length : AV) = .lst (fl Tapi_Charge.enc l_0) l_0.length), (Ret Tryz.prog G0 10 [.lst (fl Tapi_Charge.enc l_0) l_0.length] (.bool r1) [])] ++ [((!r1) = true), (Ret Tryz.prog G0 11 [] (.bool r13) [])])) (by kernel_rfl) (by kernel_rfl) (allOk_append.2 ⟨⟨rfl, ok1 (tollwaylaw50_few_ret l_0 r1 h2)⟩, ⟨(not_t (eq_false_of_ne_true c3)), ok1 (tollwaylaw50_awake_ret r13 h14)⟩⟩)
theorem tollwaylaw50_AuditLeaves_ret (l_0 : (List Tapi_Charge)) (r : Bool) (h : tollwaylaw50_AuditLeaves l_0 = some r) : Ret Tryz.prog G0 3 [.lst (fl Tapi_Charge.enc l_0) l_0.length] (.bool r) [] := by
  unfold tollwaylaw50_AuditLeaves at h
  obtain ⟨r1, h2, h⟩ := bind_some h
  rcases ite_some h with ⟨c3, h⟩ | ⟨c3, h⟩
  · obtain ⟨r4, h5, h⟩ := bind_some h
    obtain ⟨r6, h7, h⟩ := bind_some h
    obtain ⟨r8, h9, h⟩ := bind_some h
    rcases ite_some h with ⟨c10, h⟩ | ⟨c10, h⟩
    · obtain ⟨r11, h12, h⟩ := bind_some h
      simp only [Option.some.injEq] at h
      subst h
      exact tollwaylaw50_AuditLeaves_0 l_0 r1 h2 c3 r4 h5 r6 h7 r8 h9 c10 r11 h12
    · cases h
  · obtain ⟨r13, h14, h⟩ := bind_some h
    simp only [Option.some.injEq] at h
    subst h
    exact tollwaylaw50_AuditLeaves_2 l_0 r1 h2 c3 r13 h14
end Go.Proofs.YtpadimnchmghpaaGreatDoor.Av
