import Derived.Test.YtpadimnchmghpaaGreatDoorAvZ
import Derived.Test.YtpadimnchmghpaaGreatDoorProg
import Derived.Tactics
import Derived.Test.YtpadimnchmghpaaGreatDoorW0
set_option linter.unusedVariables false
set_option linter.unusedSimpArgs false
set_option maxHeartbeats 4000000
set_option maxRecDepth 100000
namespace Go.Proofs.YtpadimnchmghpaaGreatDoor.Av
open Go Go.Proofs
noncomputable def tollwaylaw50_AuditLocates (have_0 : (List Tapi_Charge)) (want_1 : (List Tapi_Charge)) : Option Bool :=
  (tollwaylaw50_few have_0).bind fun r1 =>
  if r1 = true then
    (tollwaylaw50_few want_1).bind fun r4 =>
    if r4 = true then
      (audit_Locate have_0 want_1).bind fun r7 =>
      (tollwayref50_Locate have_0 want_1).bind fun r9 =>
      (tollwayref50_SameFindings r7 r9).bind fun r11 =>
      if r11 = true then
        (tollwaylaw50_awake).bind fun r14 =>
        some r14
      else
        none
    else
      (tollwaylaw50_awake).bind fun r16 =>
      some r16
  else
    (tollwaylaw50_awake).bind fun r18 =>
    some r18
theorem tollwaylaw50_AuditLocates_ret (have_0 : (List Tapi_Charge)) (want_1 : (List Tapi_Charge)) (r : Bool) (h : tollwaylaw50_AuditLocates have_0 want_1 = some r) : Ret Tryz.prog G0 4 [.lst (fl Tapi_Charge.enc have_0) have_0.length, .lst (fl Tapi_Charge.enc want_1) want_1.length] (.bool r) [] := by
  unfold tollwaylaw50_AuditLocates at h
  obtain ⟨r1, h2, h⟩ := bind_some h
  rcases ite_some h with ⟨c3, h⟩ | ⟨c3, h⟩
  · obtain ⟨r4, h5, h⟩ := bind_some h
    rcases ite_some h with ⟨c6, h⟩ | ⟨c6, h⟩
    · obtain ⟨r7, h8, h⟩ := bind_some h
      obtain ⟨r9, h10, h⟩ := bind_some h
      obtain ⟨r11, h12, h⟩ := bind_some h
      rcases ite_some h with ⟨c13, h⟩ | ⟨c13, h⟩
      · obtain ⟨r14, h15, h⟩ := bind_some h
        obtain rfl := oI h
        exact Ret.of_view 400 (cs 2 ((.ret none [.any] (.bool r1) []) :: (cs 2 ((.op (some false) .c) :: (.ret none [.any] (.bool r4) []) :: (cs 2 ((.br false) :: (cs 2 ((.ret none [.any, .any] (.vec 0 r7.length 4) [(bV (fl Tapi_Finding.enc r7) 39)]) :: (cs 2 ((.ret none [.any, .any] (.vec 0 r9.length 4) [(bV (fl Tapi_Finding.enc r9) 39)]) :: (.ret none [.lst (fl Tapi_Finding.enc r7) r7.length, .lst (fl Tapi_Finding.enc r9) r9.length] (.bool r11) []) :: oc :: (.ret (some true) [] (.bool r14) []) :: (cs 2 []))))))))))) [] (by kernel_rfl) (by kernel_rfl) (k2 (tollwaylaw50_few_ret have_0 r1 h2) (k2 ((not_f c3) : (!r1) = false) (k2 (tollwaylaw50_few_ret want_1 r4 h5) (k2 ((not_f c6) : (!r4) = false) (k2 (audit_Locate_ret have_0 want_1 r7 h8) (k2 (tollwayref50_Locate_ret have_0 want_1 r9 h10) (k2 (⟨rfl, rfl, (fl_length (f := Tapi_Finding.enc) (z := 4) (fun _ => rfl) _)⟩ : (fl Tapi_Finding.enc r7) = (fl Tapi_Finding.enc r7) ∧ r7.length = r7.length ∧ List.length ((fl Tapi_Finding.enc r7) : List AV) = (r7.length * 4)) (k2 (⟨rfl, rfl, (fl_length (f := Tapi_Finding.enc) (z := 4) (fun _ => rfl) _)⟩ : (fl Tapi_Finding.enc r9) = (fl Tapi_Finding.enc r9) ∧ r9.length = r9.length ∧ List.length ((fl Tapi_Finding.enc r9) : List AV) = (r9.length * 4)) (k2 (trivial : datBlks []) (k2 (tollwayref50_SameFindings_ret r7 r9 r11 h12) (k2 c13 (ok1 (tollwaylaw50_awake_ret r14 h15)))))))))))))
      · cases h
    · obtain ⟨r16, h17, h⟩ := bind_some h
      obtain rfl := oI h
      exact Ret.of_view 400 (cs 2 ((.ret none [.any] (.bool r1) []) :: (cs 2 ((.op (some false) .c) :: (.ret none [.any] (.bool r4) []) :: (cs 2 [.br true, .ret none [] (.bool r16) [], oc]))))) [] (by kernel_rfl) (by kernel_rfl) (k2 (tollwaylaw50_few_ret have_0 r1 h2) (k2 ((not_f c3) : (!r1) = false) (k2 (tollwaylaw50_few_ret want_1 r4 h5) (k2 ((not_t (eq_false_of_ne_true c6)) : (!r4) = true) (ok1 (tollwaylaw50_awake_ret r16 h17))))))
  · obtain ⟨r18, h19, h⟩ := bind_some h
    obtain rfl := oI h
    exact Ret.of_view 400 (cs 2 ((.ret none [.any] (.bool r1) []) :: (cs 2 (tc :: (cs 3 [.br true, .ret none [] (.bool r18) [], oc]))))) [] (by kernel_rfl) (by kernel_rfl) (k2 (tollwaylaw50_few_ret have_0 r1 h2) (k2 ((not_t (eq_false_of_ne_true c3)) : (!r1) = true) (k2 (rfl : true = true) (ok1 (tollwaylaw50_awake_ret r18 h19)))))
end Go.Proofs.YtpadimnchmghpaaGreatDoor.Av
