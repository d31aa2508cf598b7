import Derived.Test.YtpadimnchmghpaaGreatDoorR3
open Prod (fst)
open Int (tdiv tmod)
set_option maxHeartbeats 4000000
set_option maxRecDepth 100000
set_option linter.unusedVariables false
set_option linter.unusedSimpArgs false
namespace Go.Proofs.YtpadimnchmghpaaGreatDoor.Av
noncomputable section
open Go Go.Proofs
def w5AuditDays (have_0 : (List TC)) (want_1 : (List TC)) : Option Bool :=
 (w5few have_0).bind fun r1 =>
 if r1 = true then
  (w5few want_1).bind fun r4 =>
  if r4 = true then
   (aUDays have_0 want_1).bind fun r7 =>
   (f50Days have_0 want_1).bind fun r9 =>
   (f50SameFindings r7 r9).bind fun r11 =>
   if r11 = true then
    (aULost have_0 want_1).bind fun r14 =>
    (f50Lost have_0 want_1).bind fun r16 =>
    if r14 = r16 then
     (w5awake).bind fun r19 =>
     some r19
    else
     none
   else
    none
  else
   (w5awake).bind fun r21 =>
   some r21
 else
  (w5awake).bind fun r23 =>
  some r23
theorem w5AuditDays_ret (have_0 : (List TC)) (want_1 : (List TC)) (r : Bool) (h : w5AuditDays have_0 want_1 = some r) : Ret Tryz.prog G0 5 [.lst (fl TC.enc have_0) have_0.length, .lst (fl TC.enc want_1) want_1.length] (.bool r) [] := by
 unfold w5AuditDays at h
 obtain ⟨r1, h2, h⟩ := bnS h
 let f451 : List CH := (cs 2 ((.ret none [.any] (.bool r1) []) :: (cs 2 [])))
 rcases itS h with ⟨c3, h⟩ | ⟨c3, h⟩
 ·obtain ⟨r4, h5, h⟩ := bnS h
  let f452 : List CH := (oF :: (.ret none [.any] (.bool r4) []) :: (cs 2 []))
  have g453 := k2 (w5few_ret have_0 r1 h2) (k2 ((not_f c3) : (!r1) = false) (ok1 (w5few_ret want_1 r4 h5)))
  rcases itS h with ⟨c6, h⟩ | ⟨c6, h⟩
  ·obtain ⟨r7, h8, h⟩ := bnS h
   obtain ⟨r9, h10, h⟩ := bnS h
   obtain ⟨r11, h12, h⟩ := bnS h
   rcases itS h with ⟨c13, h⟩ | ⟨c13, h⟩
   ·obtain ⟨r14, h15, h⟩ := bnS h
    obtain ⟨r16, h17, h⟩ := bnS h
    rcases itS h with ⟨c18, h⟩ | ⟨c18, h⟩
    ·obtain ⟨r19, h20, h⟩ := bnS h
     obtain rfl := oI h
     exact Ret.of_view 400 (f451 ++ (f452 ++ (bf :: (cs 2 ((.ret none [.any, .any] (.vec 0 r7.length 4) [(bV (fl TF.enc r7) 39)]) :: (cs 2 ((.ret none [.any, .any] (.vec 0 r9.length 4) [(bV (fl TF.enc r9) 39)]) :: (.ret none [.lst (fl TF.enc r7) r7.length, .lst (fl TF.enc r9) r9.length] (.bool r11) []) :: oc :: tc :: oc :: (.ret none [.any, .any] (jI r14) []) :: (cs 2 ((.ret none [.any, .any] (jI r16) []) :: oa :: (cs 2 ((.ret (some true) [] (.bool r19) []) :: (cs 2 [])))))))))))) [] (by kernel_rfl) (by kernel_rfl) (aO g453 (k2 ((not_f c6) : (!r4) = false) (k2 (aUDays_ret have_0 want_1 r7 h8) (k2 (f50Days_ret have_0 want_1 r9 h10) (k2 (⟨rfl, rfl, (fl_length (f := TF.enc) (z := 4) (fun _ => rfl) _)⟩ : (fl TF.enc r7) = (fl TF.enc r7) ∧ r7.length = r7.length ∧ List.length ((fl TF.enc r7) : List AV) = (r7.length * 4)) (k2 (⟨rfl, rfl, (fl_length (f := TF.enc) (z := 4) (fun _ => rfl) _)⟩ : (fl TF.enc r9) = (fl TF.enc r9) ∧ r9.length = r9.length ∧ List.length ((fl TF.enc r9) : List AV) = (r9.length * 4)) (k2 (trivial : datBlks []) (k2 (f50SameFindings_ret r7 r9 r11 h12) (k2 c13 (k2 (aULost_ret have_0 want_1 r14 h15) (k2 (f50Lost_ret have_0 want_1 r16 h17) (k2 (beq_t c18) (ok1 (w5awake_ret r19 h20))))))))))))))
    ·cases h
   ·cases h
  ·obtain ⟨r21, h22, h⟩ := bnS h
   obtain rfl := oI h
   exact Ret.of_view 400 (f451 ++ (f452 ++ [.br true, .ret none [] (.bool r21) [], oc])) [] (by kernel_rfl) (by kernel_rfl) (aO g453 (k2 ((not_t (eq_false_of_ne_true c6)) : (!r4) = true) (ok1 (w5awake_ret r21 h22))))
 ·obtain ⟨r23, h24, h⟩ := bnS h
  obtain rfl := oI h
  exact Ret.of_view 400 (f451 ++ (tc :: (cs 3 [.br true, .ret none [] (.bool r23) [], oc]))) [] (by kernel_rfl) (by kernel_rfl) (k2 (w5few_ret have_0 r1 h2) (k2 ((not_t (eq_false_of_ne_true c3)) : (!r1) = true) (k2 (rfl : true = true) (ok1 (w5awake_ret r23 h24)))))
end
end Go.Proofs.YtpadimnchmghpaaGreatDoor.Av
