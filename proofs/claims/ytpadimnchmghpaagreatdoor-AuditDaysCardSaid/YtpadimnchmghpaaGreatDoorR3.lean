import Derived.Test.YtpadimnchmghpaaGreatDoorN3
open Prod (fst)
open Int (tdiv tmod)
set_option maxHeartbeats 4000000
set_option maxRecDepth 100000
set_option linter.unusedVariables false
set_option linter.unusedSimpArgs false
namespace Go.Proofs.YtpadimnchmghpaaGreatDoor.Av
noncomputable section
open Go Go.Proofs
def f34Days_L67_step (charges_0 : (List TC)) (k6 : Nat) (b0 : (List Int)) (b1 : (List Int)) (r61 : Int) : Nat → Option (Nat ⊕ Int) := fun k8 =>
 if (↑k8 : Int) < (↑b0.length : Int) then
  (b0[k8]?).bind fun x74 =>
  if x74 < r61 then
   if InR .i64 ((↑k8 : Int) + 1) then
    some (Sum.inl (k8 + 1))
   else none
  else
   some (Sum.inr (↑k8 : Int))
 else
  some (Sum.inr (↑k8 : Int))
def f34Days_L67_H (charges_0 : (List TC)) (k6 : Nat) (b0 : (List Int)) (b1 : (List Int)) (r61 : Int) : Nat → St := fun (s : Nat) => S 102 [(0, .lst (fl TC.enc charges_0) charges_0.length), (4, .vec 0 b0.length 1), (5, .vec 1 b1.length 1), (6, .int .i64 (↑k6 : Int)), (7, .int .i64 r61), (8, .int .i64 (↑s : Int))] [(bV (fl e_i64 b0) 3), (bV (fl e_i64 b1) 3)]
def f34Days_L67_X (charges_0 : (List TC)) (k6 : Nat) (b0 : (List Int)) (b1 : (List Int)) (r61 : Int) : Int → AEx := fun o => (.exit 2)
def f34Days_L67_T (charges_0 : (List TC)) (k6 : Nat) (b0 : (List Int)) (b1 : (List Int)) (r61 : Int) : Int → List (Nat × AV) := fun o => [(0, .lst (fl TC.enc charges_0) charges_0.length), (4, .vec 0 b0.length 1), (5, .vec 1 b1.length 1), (6, .int .i64 (↑k6 : Int)), (7, .int .i64 r61), (8, .int .i64 o)]
def f34Days_L67_B (charges_0 : (List TC)) (k6 : Nat) (b0 : (List Int)) (b1 : (List Int)) (r61 : Int) : Int → List Blk := fun o => [(bV (fl e_i64 b0) 3), (bV (fl e_i64 b1) 3)]
def f34Days_L67_E (charges_0 : (List TC)) (k6 : Nat) (b0 : (List Int)) (b1 : (List Int)) (r61 : Int) (q : Int) : St := S 102 (f34Days_L67_T charges_0 k6 b0 b1 r61 q) (f34Days_L67_B charges_0 k6 b0 b1 r61 q)
theorem f34Days_L67_does (charges_0 : (List TC)) (k6 : Nat) (b0 : (List Int)) (b1 : (List Int)) (r61 : Int) {s : Nat} {r : Int} (h : lp (f34Days_L67_step charges_0 k6 b0 b1 r61) s = some r) : Does Tryz.prog G0 2 (.loop (bodyAt Tryz.prog 47 [1, 1, 0, 1, 0, 0, 1, 0, 0, 1, 1, 1, 0, 0, 0])) (f34Days_L67_H charges_0 k6 b0 b1 r61 s) (f34Days_L67_X charges_0 k6 b0 b1 r61 r) (f34Days_L67_E charges_0 k6 b0 b1 r61 r) := by
 refine Does.lp (H := f34Days_L67_H charges_0 k6 b0 b1 r61) (X := f34Days_L67_X charges_0 k6 b0 b1 r61) (E := f34Days_L67_E charges_0 k6 b0 b1 r61) (fun s s2 h => ?_) (fun s r h => ?_) h
 ·revert h; revert s; intro k8 h
  unfold f34Days_L67_step at h
  try dsimp only at h
  rcases itS h with ⟨c73, h⟩ | ⟨c73, h⟩
  ·obtain ⟨x74, h75, h⟩ := bnS h
   rcases itS h with ⟨c76, h⟩ | ⟨c76, h⟩
   ·obtain ⟨h77, h⟩ := gdS h
    obtain rfl := oL h
    exact Does.of_viewM 2 400 (cs 3 [oa, oc, tc, oc, .op none (.i k8), vI x74, oc, oa, oc, .br true, oc, ow, oc]) [0, 1] (by kernel_rfl) (by kernel_rfl) (k2 (dT c73) (k2 (ir h75) (k2 (s_i64 h75) (k2 (dT c76) (ok1 h77)))))
   ·simp at h
  ·simp at h
 ·revert h; revert s; intro k8 h
  unfold f34Days_L67_step at h
  try dsimp only at h
  let f348 : List CH := (cs 3 [oa, oc])
  rcases itS h with ⟨c73, h⟩ | ⟨c73, h⟩
  ·obtain ⟨x74, h75, h⟩ := bnS h
   rcases itS h with ⟨c76, h⟩ | ⟨c76, h⟩
   ·obtain ⟨h77, h⟩ := gdS h
    simp at h
   ·obtain rfl := oR h
    exact ⟨Does.of_viewM 2 400 (f348 ++ [tc, oc, .op none (.i k8), vI x74, oc, oa, oc, .br false]) [0, 1] (by kernel_rfl) (by kernel_rfl) (k2 (dT c73) (k2 (ir h75) (k2 (s_i64 h75) (ok1 (dF c76))))), by intro q; cases q⟩
  ·obtain rfl := oR h
   exact ⟨Does.of_viewM 2 400 (f348 ++ (oF :: (cs 6 [.br false]))) [0, 1] (by kernel_rfl) (by kernel_rfl) (k2 (dF c73) (ok1 (rfl : false = false))), by intro q; cases q⟩
def f34Days_L1_step (charges_0 : (List TC)) : (Nat × (List Int) × (List Int)) → Option ((Nat × (List Int) × (List Int)) ⊕ ((List Int) × (List Int)))
 | (k6, b0, b1) =>
  if (↑k6 : Int) < (↑charges_0.length : Int) then
   (charges_0[k6]?).bind fun x59 =>
   (f04Day x59.Time).bind fun r61 =>
   if r61 < (0 : Int) then
    if InR .i64 ((↑k6 : Int) + 1) then
     some (Sum.inl ((k6 + 1), b0, b1))
    else none
   else
    if x59.Cents ≥ (-1125899906842624 : Int) then
     if x59.Cents ≤ (1125899906842624 : Int) then
      (lp (f34Days_L67_step charges_0 k6 b0 b1 r61) (0 : Nat)).bind fun o67 =>
      if o67 = (↑b0.length : Int) then
       if (0 : Int) ≤ o67 then
        if o67.toNat ≤ b0.length then
         if 0 + ((List.take o67.toNat b0).length) ≤ 4294967296 then
          if ((List.take o67.toNat b0).length) + 1 ≤ 4294967296 then
           if (((List.take o67.toNat b0) ++ [r61]).length) + ((List.drop o67.toNat b0).length) ≤ 4294967296 then
            if o67.toNat ≤ b1.length then
             if 0 + ((List.take o67.toNat b1).length) ≤ 4294967296 then
              if ((List.take o67.toNat b1).length) + 1 ≤ 4294967296 then
               if (((List.take o67.toNat b1) ++ [0]).length) + ((List.drop o67.toNat b1).length) ≤ 4294967296 then
                ((((List.take o67.toNat b1) ++ [0]) ++ (List.drop o67.toNat b1))[o67.toNat]?).bind fun x88 =>
                if InR .i64 (x88 + x59.Cents) then
                 if InR .i64 ((↑k6 : Int) + 1) then
                  some (Sum.inl ((k6 + 1), (((List.take o67.toNat b0) ++ [r61]) ++ (List.drop o67.toNat b0)), (List.set (((List.take o67.toNat b1) ++ [0]) ++ (List.drop o67.toNat b1)) o67.toNat (x88 + x59.Cents))))
                 else none
                else none
               else none
              else none
             else none
            else none
           else none
          else none
         else none
        else none
       else none
      else
       if (0 : Int) ≤ o67 then
        (b0[o67.toNat]?).bind fun x93 =>
        if x93 = r61 then
         (b1[o67.toNat]?).bind fun x96 =>
         if InR .i64 (x96 + x59.Cents) then
          if InR .i64 ((↑k6 : Int) + 1) then
           some (Sum.inl ((k6 + 1), b0, (List.set b1 o67.toNat (x96 + x59.Cents))))
          else none
         else none
        else
         if o67.toNat ≤ b0.length then
          if 0 + ((List.take o67.toNat b0).length) ≤ 4294967296 then
           if ((List.take o67.toNat b0).length) + 1 ≤ 4294967296 then
            if (((List.take o67.toNat b0) ++ [r61]).length) + ((List.drop o67.toNat b0).length) ≤ 4294967296 then
             if o67.toNat ≤ b1.length then
              if 0 + ((List.take o67.toNat b1).length) ≤ 4294967296 then
               if ((List.take o67.toNat b1).length) + 1 ≤ 4294967296 then
                if (((List.take o67.toNat b1) ++ [0]).length) + ((List.drop o67.toNat b1).length) ≤ 4294967296 then
                 ((((List.take o67.toNat b1) ++ [0]) ++ (List.drop o67.toNat b1))[o67.toNat]?).bind fun x108 =>
                 if InR .i64 (x108 + x59.Cents) then
                  if InR .i64 ((↑k6 : Int) + 1) then
                   some (Sum.inl ((k6 + 1), (((List.take o67.toNat b0) ++ [r61]) ++ (List.drop o67.toNat b0)), (List.set (((List.take o67.toNat b1) ++ [0]) ++ (List.drop o67.toNat b1)) o67.toNat (x108 + x59.Cents))))
                  else none
                 else none
                else none
               else none
              else none
             else none
            else none
           else none
          else none
         else none
       else none
     else
      if InR .i64 ((↑k6 : Int) + 1) then
       some (Sum.inl ((k6 + 1), b0, b1))
      else none
    else
     if InR .i64 ((↑k6 : Int) + 1) then
      some (Sum.inl ((k6 + 1), b0, b1))
     else none
  else
   some (Sum.inr (b0, b1))
def f34Days_L1_H (charges_0 : (List TC)) : (Nat × (List Int) × (List Int)) → St := fun (s : (Nat × (List Int) × (List Int))) => S 102 [(0, .lst (fl TC.enc charges_0) charges_0.length), (4, .vec 0 s.2.1.length 1), (5, .vec 1 s.2.2.length 1), (6, .int .i64 (↑s.1 : Int))] [(bV (fl e_i64 s.2.1) 3), (bV (fl e_i64 s.2.2) 3)]
def f34Days_L1_X (charges_0 : (List TC)) : ((List Int) × (List Int)) → AEx := fun o => (.exit 0)
def f34Days_L1_T (charges_0 : (List TC)) : ((List Int) × (List Int)) → List (Nat × AV) := fun o => [(4, .vec 0 o.1.length 1), (5, .vec 1 o.2.length 1)]
def f34Days_L1_B (charges_0 : (List TC)) : ((List Int) × (List Int)) → List Blk := fun o => [(bV (fl e_i64 o.1) 3), (bV (fl e_i64 o.2) 3)]
def f34Days_L1_E (charges_0 : (List TC)) (q : ((List Int) × (List Int))) : St := S 102 (f34Days_L1_T charges_0 q) (f34Days_L1_B charges_0 q)
theorem f34Days_L1_does (charges_0 : (List TC)) {s : (Nat × (List Int) × (List Int))} {r : ((List Int) × (List Int))} (h : lp (f34Days_L1_step charges_0) s = some r) : Does Tryz.prog G0 0 (.loop (bodyAt Tryz.prog 47 [1, 1, 0, 1, 0, 0])) (f34Days_L1_H charges_0 s) (f34Days_L1_X charges_0 r) (f34Days_L1_E charges_0 r) := by
 refine Does.lp (H := f34Days_L1_H charges_0) (X := f34Days_L1_X charges_0) (E := f34Days_L1_E charges_0) (fun s s2 h => ?_) (fun s r h => ?_) h
 ·obtain ⟨k6, b0, b1⟩ := s
  unfold f34Days_L1_step at h
  try dsimp only at h
  rcases itS h with ⟨c58, h⟩ | ⟨c58, h⟩
  ·obtain ⟨x59, h60, h⟩ := bnS h
   obtain ⟨r61, h62, h⟩ := bnS h
   let f349 : List CH := (cs 3 (oa :: bt :: (cs 2 ((.op none (.i k6)) :: oc :: (.op none (.v [.int .i64 x59.Time])) :: (.ret none [.any] (.int .i64 r61) []) :: (cs 2 [oa, oc])))))
   have g350 := k2 (dT c58) (k2 (ir h60) (k2 (fl_ne (f := TC.enc) (z := 6) (fun _ => rfl) h60) (k2 (fl_sub (f := TC.enc) (z := 7) (j := k6) (a := 4) (n := 1) (fun _ => rfl) h60 (by decide) rfl) (ok1 (f04Day_ret x59.Time r61 h62)))))
   rcases itS h with ⟨c63, h⟩ | ⟨c63, h⟩
   ·obtain ⟨h64, h⟩ := gdS h
    obtain rfl := oL h
    exact Does.of_viewM 0 400 (f349 ++ (tc :: (cs 7 [.br true, oc, ow, oc]))) [0, 1] (by kernel_rfl) (by kernel_rfl) (aO g350 (k2 (dT c63) (k2 (rfl : true = true) (ok1 h64))))
   ·let f351 : List CH := (oF :: oc :: (.op none (.i k6)) :: oc :: (.op none (.v [.int .i64 x59.Cents])) :: (cs 3 [oa, oc]))
    have g352 := k2 (dF c63) (k2 (ir h60) (k2 (fl_ne (f := TC.enc) (z := 6) (fun _ => rfl) h60) (ok1 (fl_sub (f := TC.enc) (z := 7) (j := k6) (a := 6) (n := 1) (fun _ => rfl) h60 (by decide) rfl))))
    rcases itS h with ⟨c65, h⟩ | ⟨c65, h⟩
    ·let f353 : List CH := (tc :: oa :: (cs 4 []))
     rcases itS h with ⟨c66, h⟩ | ⟨c66, h⟩
     ·obtain ⟨o67, hl67, h⟩ := bnS h
      let f354 : List CH := (bf :: oc :: (.fcut 2 (.exit 2) (f34Days_L67_T charges_0 k6 b0 b1 r61 o67) [(bV (fl e_i64 b0) 3), (bV (fl e_i64 b1) 3)] [0, 1] [(0, .any), (4, .any), (5, .any), (6, .any), (7, .any), (8, .int .i64 (↑(0 : Nat) : Int))] [bS, bS]) :: (cs 3 [oa, oc]))
      have g355 := k2 (dT c65) (k2 (not_f (dT c66)) (k2 (rfl : (.int .i64 0 : AV) = .int .i64 (↑(0 : Nat) : Int)) (ok1 (f34Days_L67_does charges_0 k6 b0 b1 r61 (s := (0 : Nat)) (r := o67) hl67))))
      rcases itS h with ⟨c78, h⟩ | ⟨c78, h⟩
      ·obtain ⟨h79, h⟩ := gdS h
       obtain ⟨h80, h⟩ := gdS h
       obtain ⟨h81, h⟩ := gdS h
       obtain ⟨h82, h⟩ := gdS h
       obtain ⟨h83, h⟩ := gdS h
       obtain ⟨h84, h⟩ := gdS h
       obtain ⟨h85, h⟩ := gdS h
       obtain ⟨h86, h⟩ := gdS h
       obtain ⟨h87, h⟩ := gdS h
       obtain ⟨x88, h89, h⟩ := bnS h
       obtain ⟨h90, h⟩ := gdS h
       obtain ⟨h91, h⟩ := gdS h
       obtain rfl := oL h
       simp only [f34Days_L1_H, List.length_set]
       exact Does.of_viewM 0 400 (f349 ++ (f351 ++ (f353 ++ (f354 ++ (tc :: (cs 6 (bt :: (cs 5 ((.tr (.frz [.t 4, .t 49, .t 61] (fl e_i64 b0) b0.length)) :: (.op none (.s 0 o67.toNat)) :: (.tr (.eqt (.t 63) (.lst (fl e_i64 (List.take o67.toNat b0)) ((List.take o67.toNat b0).length)))) :: (.tr (.vec (.t 60) 1 3)) :: (.op none (.ap 4)) :: (.tr (.eqc 5 (fl e_i64 (List.take o67.toNat b0)))) :: (.tr (.eqt (.t 64) (.vec 5 ((List.take o67.toNat b0).length) 1))) :: (cs 4 ((.op none (.ap 4)) :: (.tr (.eqc 7 (fl e_i64 ((List.take o67.toNat b0) ++ [r61])))) :: (.tr (.eqt (.t 68) (.vec 7 (((List.take o67.toNat b0) ++ [r61]).length) 1))) :: (cs 4 ((.op none (.s o67.toNat b0.length)) :: (.tr (.eqt (.t 72) (.lst (fl e_i64 (List.drop o67.toNat b0)) ((List.drop o67.toNat b0).length)))) :: (.op none (.ap 4)) :: (.tr (.eqc 8 (fl e_i64 (((List.take o67.toNat b0) ++ [r61]) ++ (List.drop o67.toNat b0))))) :: (.tr (.eqt (.t 73) (.vec 8 ((((List.take o67.toNat b0) ++ [r61]) ++ (List.drop o67.toNat b0)).length) 1))) :: (cs 4 ((.tr (.frz [.t 5, .t 75] (fl e_i64 b1) b1.length)) :: (.op none (.s 0 o67.toNat)) :: (.tr (.eqt (.t 77) (.lst (fl e_i64 (List.take o67.toNat b1)) ((List.take o67.toNat b1).length)))) :: (.tr (.vec (.t 74) 1 3)) :: (.op none (.ap 4)) :: (.tr (.eqc 10 (fl e_i64 (List.take o67.toNat b1)))) :: (.tr (.eqt (.t 78) (.vec 10 ((List.take o67.toNat b1).length) 1))) :: (cs 3 ((.op none (.ap 4)) :: (.tr (.eqc 12 (fl e_i64 ((List.take o67.toNat b1) ++ [0])))) :: (.tr (.eqt (.t 81) (.vec 12 (((List.take o67.toNat b1) ++ [0]).length) 1))) :: (cs 4 ((.op none (.s o67.toNat b1.length)) :: (.tr (.eqt (.t 85) (.lst (fl e_i64 (List.drop o67.toNat b1)) ((List.drop o67.toNat b1).length)))) :: (.op none (.ap 4)) :: (.tr (.eqc 13 (fl e_i64 (((List.take o67.toNat b1) ++ [0]) ++ (List.drop o67.toNat b1))))) :: (.tr (.eqt (.t 86) (.vec 13 ((((List.take o67.toNat b1) ++ [0]) ++ (List.drop o67.toNat b1)).length) 1))) :: (cs 5 ((.op none (.i o67.toNat)) :: (vI x88) :: (cs 2 [.op none (.i k6), oc, .op none (.v [jI x59.Cents]), ow, .op none (.i o67.toNat), oa, .trp (.eqc 13 (fl e_i64 (List.set (((List.take o67.toNat b1) ++ [0]) ++ (List.drop o67.toNat b1)) o67.toNat (x88 + x59.Cents)))), oc, ow, oc])))))))))))))))))))))) [8, 13] (by kernel_rfl) (by kernel_rfl) (aO g350 (aO g352 (aO g355 (k2 (beq_t c78) (k2 (rfl : true = true) (k2 (⟨rfl, rfl, rfl, (fl_length1 (f := e_i64) (fun _ => rfl) _)⟩ : 0 = 0 ∧ (fl e_i64 b0) = (fl e_i64 b0) ∧ b0.length = b0.length ∧ List.length ((fl e_i64 b0) : List AV) = b0.length) (k2 (⟨rfl, rfl, rfl, (fl_length1 (f := e_i64) (fun _ => rfl) _)⟩ : 0 = 0 ∧ (fl e_i64 b0) = (fl e_i64 b0) ∧ b0.length = b0.length ∧ List.length ((fl e_i64 b0) : List AV) = b0.length) (k2 (⟨rfl, rfl, rfl, (fl_length1 (f := e_i64) (fun _ => rfl) _)⟩ : 0 = 0 ∧ (fl e_i64 b0) = (fl e_i64 b0) ∧ b0.length = b0.length ∧ List.length ((fl e_i64 b0) : List AV) = b0.length) (k2 ((Int.toNat_of_nonneg h79).symm : o67 = ((o67.toNat : Nat) : Int)) (k2 (⟨Nat.zero_le _, h80⟩ : 0 ≤ o67.toNat ∧ o67.toNat ≤ b0.length) (k2 ((lst_eq (fl_take1 (f := e_i64) (fun _ => rfl) _ _) (by rw [List.length_take]; omega)) : (.lst (List.take o67.toNat (fl e_i64 b0)) o67.toNat : AV) = .lst (fl e_i64 (List.take o67.toNat b0)) ((List.take o67.toNat b0).length)) (k2 ((fl_length1 (f := e_i64) (fun _ => rfl) _) : List.length ((fl e_i64 (List.take o67.toNat b0)) : List AV) = ((List.take o67.toNat b0).length)) (k2 (rfl : List.length ([] : List AV) = 0) (k2 ((all_one (f := e_i64) (fun _ => rfl) _) : List.all ((fl e_i64 (List.take o67.toNat b0)) : List AV) AV.one = true) (k2 h81 (k2 (rfl : [] ++ (fl e_i64 (List.take o67.toNat b0)) = (fl e_i64 (List.take o67.toNat b0))) (k2 ((by simp <;> omega) : (.vec 5 (0 + ((List.take o67.toNat b0).length)) 1 : AV) = .vec 5 ((List.take o67.toNat b0).length) 1) (k2 ((nB rfl) : 0 + 1 ≤ List.length ([jI r61] : List AV)) (k2 ((fl_length1 (f := e_i64) (fun _ => rfl) _) : List.length ((fl e_i64 (List.take o67.toNat b0)) : List AV) = ((List.take o67.toNat b0).length)) (k2 (rfl : List.all ([jI r61] : List AV) AV.one = true) (k2 h82 (k2 ((fl_snoc rfl) : (fl e_i64 (List.take o67.toNat b0)) ++ [jI r61] = (fl e_i64 ((List.take o67.toNat b0) ++ [r61]))) (k2 ((by simp <;> omega) : (.vec 7 (((List.take o67.toNat b0).length) + 1) 1 : AV) = .vec 7 (((List.take o67.toNat b0) ++ [r61]).length) 1) (k2 ((Int.toNat_of_nonneg h79).symm : o67 = ((o67.toNat : Nat) : Int)) (k2 (⟨h80, Nat.le_refl _⟩ : o67.toNat ≤ b0.length ∧ b0.length ≤ b0.length) (k2 ((Nat.le_of_eq (fl_length1 (f := e_i64) (fun _ => rfl) _)) : List.length ((fl e_i64 b0) : List AV) ≤ b0.length) (k2 ((lst_eq (fl_drop1 (f := e_i64) (fun _ => rfl) _ _) (by rw [List.length_drop])) : (.lst (List.drop o67.toNat (fl e_i64 b0)) (b0.length - o67.toNat) : AV) = .lst (fl e_i64 (List.drop o67.toNat b0)) ((List.drop o67.toNat b0).length)) (k2 ((fl_length1 (f := e_i64) (fun _ => rfl) _) : List.length ((fl e_i64 (List.drop o67.toNat b0)) : List AV) = ((List.drop o67.toNat b0).length)) (k2 ((fl_length1 (f := e_i64) (fun _ => rfl) _) : List.length ((fl e_i64 ((List.take o67.toNat b0) ++ [r61])) : List AV) = (((List.take o67.toNat b0) ++ [r61]).length)) (k2 ((all_one (f := e_i64) (fun _ => rfl) _) : List.all ((fl e_i64 (List.drop o67.toNat b0)) : List AV) AV.one = true) (k2 h83 (k2 (fl_app.symm : (fl e_i64 ((List.take o67.toNat b0) ++ [r61])) ++ (fl e_i64 (List.drop o67.toNat b0)) = (fl e_i64 (((List.take o67.toNat b0) ++ [r61]) ++ (List.drop o67.toNat b0)))) (k2 ((by simp <;> omega) : (.vec 8 ((((List.take o67.toNat b0) ++ [r61]).length) + ((List.drop o67.toNat b0).length)) 1 : AV) = .vec 8 ((((List.take o67.toNat b0) ++ [r61]) ++ (List.drop o67.toNat b0)).length) 1) (k2 (⟨rfl, rfl, rfl, (fl_length1 (f := e_i64) (fun _ => rfl) _)⟩ : 1 = 1 ∧ (fl e_i64 b1) = (fl e_i64 b1) ∧ b1.length = b1.length ∧ List.length ((fl e_i64 b1) : List AV) = b1.length) (k2 (⟨rfl, rfl, rfl, (fl_length1 (f := e_i64) (fun _ => rfl) _)⟩ : 1 = 1 ∧ (fl e_i64 b1) = (fl e_i64 b1) ∧ b1.length = b1.length ∧ List.length ((fl e_i64 b1) : List AV) = b1.length) (k2 ((Int.toNat_of_nonneg h79).symm : o67 = ((o67.toNat : Nat) : Int)) (k2 (⟨Nat.zero_le _, h84⟩ : 0 ≤ o67.toNat ∧ o67.toNat ≤ b1.length) (k2 ((lst_eq (fl_take1 (f := e_i64) (fun _ => rfl) _ _) (by rw [List.length_take]; omega)) : (.lst (List.take o67.toNat (fl e_i64 b1)) o67.toNat : AV) = .lst (fl e_i64 (List.take o67.toNat b1)) ((List.take o67.toNat b1).length)) (k2 ((fl_length1 (f := e_i64) (fun _ => rfl) _) : List.length ((fl e_i64 (List.take o67.toNat b1)) : List AV) = ((List.take o67.toNat b1).length)) (k2 (rfl : List.length ([] : List AV) = 0) (k2 ((all_one (f := e_i64) (fun _ => rfl) _) : List.all ((fl e_i64 (List.take o67.toNat b1)) : List AV) AV.one = true) (k2 h85 (k2 (rfl : [] ++ (fl e_i64 (List.take o67.toNat b1)) = (fl e_i64 (List.take o67.toNat b1))) (k2 ((by simp <;> omega) : (.vec 10 (0 + ((List.take o67.toNat b1).length)) 1 : AV) = .vec 10 ((List.take o67.toNat b1).length) 1) (k2 ((nB rfl) : 0 + 1 ≤ List.length ([jI 0] : List AV)) (k2 ((fl_length1 (f := e_i64) (fun _ => rfl) _) : List.length ((fl e_i64 (List.take o67.toNat b1)) : List AV) = ((List.take o67.toNat b1).length)) (k2 (rfl : List.all ([jI 0] : List AV) AV.one = true) (k2 h86 (k2 ((fl_snoc rfl) : (fl e_i64 (List.take o67.toNat b1)) ++ [jI 0] = (fl e_i64 ((List.take o67.toNat b1) ++ [0]))) (k2 ((by simp <;> omega) : (.vec 12 (((List.take o67.toNat b1).length) + 1) 1 : AV) = .vec 12 (((List.take o67.toNat b1) ++ [0]).length) 1) (k2 ((Int.toNat_of_nonneg h79).symm : o67 = ((o67.toNat : Nat) : Int)) (k2 (⟨h84, Nat.le_refl _⟩ : o67.toNat ≤ b1.length ∧ b1.length ≤ b1.length) (k2 ((Nat.le_of_eq (fl_length1 (f := e_i64) (fun _ => rfl) _)) : List.length ((fl e_i64 b1) : List AV) ≤ b1.length) (k2 ((lst_eq (fl_drop1 (f := e_i64) (fun _ => rfl) _ _) (by rw [List.length_drop])) : (.lst (List.drop o67.toNat (fl e_i64 b1)) (b1.length - o67.toNat) : AV) = .lst (fl e_i64 (List.drop o67.toNat b1)) ((List.drop o67.toNat b1).length)) (k2 ((fl_length1 (f := e_i64) (fun _ => rfl) _) : List.length ((fl e_i64 (List.drop o67.toNat b1)) : List AV) = ((List.drop o67.toNat b1).length)) (k2 ((fl_length1 (f := e_i64) (fun _ => rfl) _) : List.length ((fl e_i64 ((List.take o67.toNat b1) ++ [0])) : List AV) = (((List.take o67.toNat b1) ++ [0]).length)) (k2 ((all_one (f := e_i64) (fun _ => rfl) _) : List.all ((fl e_i64 (List.drop o67.toNat b1)) : List AV) AV.one = true) (k2 h87 (k2 (fl_app.symm : (fl e_i64 ((List.take o67.toNat b1) ++ [0])) ++ (fl e_i64 (List.drop o67.toNat b1)) = (fl e_i64 (((List.take o67.toNat b1) ++ [0]) ++ (List.drop o67.toNat b1)))) (k2 ((by simp <;> omega) : (.vec 13 ((((List.take o67.toNat b1) ++ [0]).length) + ((List.drop o67.toNat b1).length)) 1 : AV) = .vec 13 ((((List.take o67.toNat b1) ++ [0]) ++ (List.drop o67.toNat b1)).length) 1) (k2 (ix h79 h89) (k2 (s_i64 h89) (k2 (ir h60) (k2 (fl_ne (f := TC.enc) (z := 6) (fun _ => rfl) h60) (k2 (fl_sub (f := TC.enc) (z := 7) (j := k6) (a := 6) (n := 1) (fun _ => rfl) h60 (by decide) rfl) (k2 h90 (k2 (ix h79 h89) (k2 (rm_i64 h89) (k2 (st_i64 (x88 + x59.Cents) h89) (ok1 h91))))))))))))))))))))))))))))))))))))))))))))))))))))))))))))))))))))))
      ·obtain ⟨h92, h⟩ := gdS h
       obtain ⟨x93, h94, h⟩ := bnS h
       let f356 : List CH := [.op (some false) .c, oc, .op none (.i o67.toNat), vI x93, oc, oa, oc]
       have g357 := k2 (beq_f c78) (k2 (ix h92 h94) (ok1 (s_i64 h94)))
       rcases itS h with ⟨c95, h⟩ | ⟨c95, h⟩
       ·obtain ⟨x96, h97, h⟩ := bnS h
        obtain ⟨h98, h⟩ := gdS h
        obtain ⟨h99, h⟩ := gdS h
        obtain rfl := oL h
        simp only [f34Days_L1_H, List.length_set]
        exact Does.of_viewM 0 400 (f349 ++ (f351 ++ (f353 ++ (f354 ++ (f356 ++ (bf :: (cs 4 ((.op none (.i o67.toNat)) :: (vI x96) :: (cs 2 [.op none (.i k6), oc, .op none (.v [jI x59.Cents]), ow, .op none (.i o67.toNat), oa, .trp (.eqc 1 (fl e_i64 (List.set b1 o67.toNat (x96 + x59.Cents)))), oc, ow, oc]))))))))) [0, 1] (by kernel_rfl) (by kernel_rfl) (aO g350 (aO g352 (aO g355 (aO g357 (k2 (not_f (beq_t c95)) (k2 (ix h92 h97) (k2 (s_i64 h97) (k2 (ir h60) (k2 (fl_ne (f := TC.enc) (z := 6) (fun _ => rfl) h60) (k2 (fl_sub (f := TC.enc) (z := 7) (j := k6) (a := 6) (n := 1) (fun _ => rfl) h60 (by decide) rfl) (k2 h98 (k2 (ix h92 h97) (k2 (rm_i64 h97) (k2 (st_i64 (x96 + x59.Cents) h97) (ok1 h99)))))))))))))))
       ·obtain ⟨h100, h⟩ := gdS h
        obtain ⟨h101, h⟩ := gdS h
        obtain ⟨h102, h⟩ := gdS h
        obtain ⟨h103, h⟩ := gdS h
        obtain ⟨h104, h⟩ := gdS h
        obtain ⟨h105, h⟩ := gdS h
        obtain ⟨h106, h⟩ := gdS h
        obtain ⟨h107, h⟩ := gdS h
        obtain ⟨x108, h109, h⟩ := bnS h
        obtain ⟨h110, h⟩ := gdS h
        obtain ⟨h111, h⟩ := gdS h
        obtain rfl := oL h
        simp only [f34Days_L1_H, List.length_set]
        exact Does.of_viewM 0 400 (f349 ++ (f351 ++ (f353 ++ (f354 ++ (f356 ++ (bt :: (cs 5 ((.tr (.frz [.t 4, .t 49, .t 53, .t 61] (fl e_i64 b0) b0.length)) :: (.op none (.s 0 o67.toNat)) :: (.tr (.eqt (.t 63) (.lst (fl e_i64 (List.take o67.toNat b0)) ((List.take o67.toNat b0).length)))) :: (.tr (.vec (.t 60) 1 3)) :: (.op none (.ap 4)) :: (.tr (.eqc 5 (fl e_i64 (List.take o67.toNat b0)))) :: (.tr (.eqt (.t 64) (.vec 5 ((List.take o67.toNat b0).length) 1))) :: (cs 4 ((.op none (.ap 4)) :: (.tr (.eqc 7 (fl e_i64 ((List.take o67.toNat b0) ++ [r61])))) :: (.tr (.eqt (.t 68) (.vec 7 (((List.take o67.toNat b0) ++ [r61]).length) 1))) :: (cs 4 ((.op none (.s o67.toNat b0.length)) :: (.tr (.eqt (.t 72) (.lst (fl e_i64 (List.drop o67.toNat b0)) ((List.drop o67.toNat b0).length)))) :: (.op none (.ap 4)) :: (.tr (.eqc 8 (fl e_i64 (((List.take o67.toNat b0) ++ [r61]) ++ (List.drop o67.toNat b0))))) :: (.tr (.eqt (.t 73) (.vec 8 ((((List.take o67.toNat b0) ++ [r61]) ++ (List.drop o67.toNat b0)).length) 1))) :: (cs 4 ((.tr (.frz [.t 5, .t 75] (fl e_i64 b1) b1.length)) :: (.op none (.s 0 o67.toNat)) :: (.tr (.eqt (.t 77) (.lst (fl e_i64 (List.take o67.toNat b1)) ((List.take o67.toNat b1).length)))) :: (.tr (.vec (.t 74) 1 3)) :: (.op none (.ap 4)) :: (.tr (.eqc 10 (fl e_i64 (List.take o67.toNat b1)))) :: (.tr (.eqt (.t 78) (.vec 10 ((List.take o67.toNat b1).length) 1))) :: (cs 3 ((.op none (.ap 4)) :: (.tr (.eqc 12 (fl e_i64 ((List.take o67.toNat b1) ++ [0])))) :: (.tr (.eqt (.t 81) (.vec 12 (((List.take o67.toNat b1) ++ [0]).length) 1))) :: (cs 4 ((.op none (.s o67.toNat b1.length)) :: (.tr (.eqt (.t 85) (.lst (fl e_i64 (List.drop o67.toNat b1)) ((List.drop o67.toNat b1).length)))) :: (.op none (.ap 4)) :: (.tr (.eqc 13 (fl e_i64 (((List.take o67.toNat b1) ++ [0]) ++ (List.drop o67.toNat b1))))) :: (.tr (.eqt (.t 86) (.vec 13 ((((List.take o67.toNat b1) ++ [0]) ++ (List.drop o67.toNat b1)).length) 1))) :: (cs 5 ((.op none (.i o67.toNat)) :: (vI x108) :: (cs 2 [.op none (.i k6), oc, .op none (.v [jI x59.Cents]), ow, .op none (.i o67.toNat), oa, .trp (.eqc 13 (fl e_i64 (List.set (((List.take o67.toNat b1) ++ [0]) ++ (List.drop o67.toNat b1)) o67.toNat (x108 + x59.Cents)))), oc, ow, oc]))))))))))))))))))))) [8, 13] (by kernel_rfl) (by kernel_rfl) (aO g350 (aO g352 (aO g355 (aO g357 (k2 (not_t (beq_f c95)) (k2 (⟨rfl, rfl, rfl, (fl_length1 (f := e_i64) (fun _ => rfl) _)⟩ : 0 = 0 ∧ (fl e_i64 b0) = (fl e_i64 b0) ∧ b0.length = b0.length ∧ List.length ((fl e_i64 b0) : List AV) = b0.length) (k2 (⟨rfl, rfl, rfl, (fl_length1 (f := e_i64) (fun _ => rfl) _)⟩ : 0 = 0 ∧ (fl e_i64 b0) = (fl e_i64 b0) ∧ b0.length = b0.length ∧ List.length ((fl e_i64 b0) : List AV) = b0.length) (k2 (⟨rfl, rfl, rfl, (fl_length1 (f := e_i64) (fun _ => rfl) _)⟩ : 0 = 0 ∧ (fl e_i64 b0) = (fl e_i64 b0) ∧ b0.length = b0.length ∧ List.length ((fl e_i64 b0) : List AV) = b0.length) (k2 (⟨rfl, rfl, rfl, (fl_length1 (f := e_i64) (fun _ => rfl) _)⟩ : 0 = 0 ∧ (fl e_i64 b0) = (fl e_i64 b0) ∧ b0.length = b0.length ∧ List.length ((fl e_i64 b0) : List AV) = b0.length) (k2 ((Int.toNat_of_nonneg h92).symm : o67 = ((o67.toNat : Nat) : Int)) (k2 (⟨Nat.zero_le _, h100⟩ : 0 ≤ o67.toNat ∧ o67.toNat ≤ b0.length) (k2 ((lst_eq (fl_take1 (f := e_i64) (fun _ => rfl) _ _) (by rw [List.length_take]; omega)) : (.lst (List.take o67.toNat (fl e_i64 b0)) o67.toNat : AV) = .lst (fl e_i64 (List.take o67.toNat b0)) ((List.take o67.toNat b0).length)) (k2 ((fl_length1 (f := e_i64) (fun _ => rfl) _) : List.length ((fl e_i64 (List.take o67.toNat b0)) : List AV) = ((List.take o67.toNat b0).length)) (k2 (rfl : List.length ([] : List AV) = 0) (k2 ((all_one (f := e_i64) (fun _ => rfl) _) : List.all ((fl e_i64 (List.take o67.toNat b0)) : List AV) AV.one = true) (k2 h101 (k2 (rfl : [] ++ (fl e_i64 (List.take o67.toNat b0)) = (fl e_i64 (List.take o67.toNat b0))) (k2 ((by simp <;> omega) : (.vec 5 (0 + ((List.take o67.toNat b0).length)) 1 : AV) = .vec 5 ((List.take o67.toNat b0).length) 1) (k2 ((nB rfl) : 0 + 1 ≤ List.length ([jI r61] : List AV)) (k2 ((fl_length1 (f := e_i64) (fun _ => rfl) _) : List.length ((fl e_i64 (List.take o67.toNat b0)) : List AV) = ((List.take o67.toNat b0).length)) (k2 (rfl : List.all ([jI r61] : List AV) AV.one = true) (k2 h102 (k2 ((fl_snoc rfl) : (fl e_i64 (List.take o67.toNat b0)) ++ [jI r61] = (fl e_i64 ((List.take o67.toNat b0) ++ [r61]))) (k2 ((by simp <;> omega) : (.vec 7 (((List.take o67.toNat b0).length) + 1) 1 : AV) = .vec 7 (((List.take o67.toNat b0) ++ [r61]).length) 1) (k2 ((Int.toNat_of_nonneg h92).symm : o67 = ((o67.toNat : Nat) : Int)) (k2 (⟨h100, Nat.le_refl _⟩ : o67.toNat ≤ b0.length ∧ b0.length ≤ b0.length) (k2 ((Nat.le_of_eq (fl_length1 (f := e_i64) (fun _ => rfl) _)) : List.length ((fl e_i64 b0) : List AV) ≤ b0.length) (k2 ((lst_eq (fl_drop1 (f := e_i64) (fun _ => rfl) _ _) (by rw [List.length_drop])) : (.lst (List.drop o67.toNat (fl e_i64 b0)) (b0.length - o67.toNat) : AV) = .lst (fl e_i64 (List.drop o67.toNat b0)) ((List.drop o67.toNat b0).length)) (k2 ((fl_length1 (f := e_i64) (fun _ => rfl) _) : List.length ((fl e_i64 (List.drop o67.toNat b0)) : List AV) = ((List.drop o67.toNat b0).length)) (k2 ((fl_length1 (f := e_i64) (fun _ => rfl) _) : List.length ((fl e_i64 ((List.take o67.toNat b0) ++ [r61])) : List AV) = (((List.take o67.toNat b0) ++ [r61]).length)) (k2 ((all_one (f := e_i64) (fun _ => rfl) _) : List.all ((fl e_i64 (List.drop o67.toNat b0)) : List AV) AV.one = true) (k2 h103 (k2 (fl_app.symm : (fl e_i64 ((List.take o67.toNat b0) ++ [r61])) ++ (fl e_i64 (List.drop o67.toNat b0)) = (fl e_i64 (((List.take o67.toNat b0) ++ [r61]) ++ (List.drop o67.toNat b0)))) (k2 ((by simp <;> omega) : (.vec 8 ((((List.take o67.toNat b0) ++ [r61]).length) + ((List.drop o67.toNat b0).length)) 1 : AV) = .vec 8 ((((List.take o67.toNat b0) ++ [r61]) ++ (List.drop o67.toNat b0)).length) 1) (k2 (⟨rfl, rfl, rfl, (fl_length1 (f := e_i64) (fun _ => rfl) _)⟩ : 1 = 1 ∧ (fl e_i64 b1) = (fl e_i64 b1) ∧ b1.length = b1.length ∧ List.length ((fl e_i64 b1) : List AV) = b1.length) (k2 (⟨rfl, rfl, rfl, (fl_length1 (f := e_i64) (fun _ => rfl) _)⟩ : 1 = 1 ∧ (fl e_i64 b1) = (fl e_i64 b1) ∧ b1.length = b1.length ∧ List.length ((fl e_i64 b1) : List AV) = b1.length) (k2 ((Int.toNat_of_nonneg h92).symm : o67 = ((o67.toNat : Nat) : Int)) (k2 (⟨Nat.zero_le _, h104⟩ : 0 ≤ o67.toNat ∧ o67.toNat ≤ b1.length) (k2 ((lst_eq (fl_take1 (f := e_i64) (fun _ => rfl) _ _) (by rw [List.length_take]; omega)) : (.lst (List.take o67.toNat (fl e_i64 b1)) o67.toNat : AV) = .lst (fl e_i64 (List.take o67.toNat b1)) ((List.take o67.toNat b1).length)) (k2 ((fl_length1 (f := e_i64) (fun _ => rfl) _) : List.length ((fl e_i64 (List.take o67.toNat b1)) : List AV) = ((List.take o67.toNat b1).length)) (k2 (rfl : List.length ([] : List AV) = 0) (k2 ((all_one (f := e_i64) (fun _ => rfl) _) : List.all ((fl e_i64 (List.take o67.toNat b1)) : List AV) AV.one = true) (k2 h105 (k2 (rfl : [] ++ (fl e_i64 (List.take o67.toNat b1)) = (fl e_i64 (List.take o67.toNat b1))) (k2 ((by simp <;> omega) : (.vec 10 (0 + ((List.take o67.toNat b1).length)) 1 : AV) = .vec 10 ((List.take o67.toNat b1).length) 1) (k2 ((nB rfl) : 0 + 1 ≤ List.length ([jI 0] : List AV)) (k2 ((fl_length1 (f := e_i64) (fun _ => rfl) _) : List.length ((fl e_i64 (List.take o67.toNat b1)) : List AV) = ((List.take o67.toNat b1).length)) (k2 (rfl : List.all ([jI 0] : List AV) AV.one = true) (k2 h106 (k2 ((fl_snoc rfl) : (fl e_i64 (List.take o67.toNat b1)) ++ [jI 0] = (fl e_i64 ((List.take o67.toNat b1) ++ [0]))) (k2 ((by simp <;> omega) : (.vec 12 (((List.take o67.toNat b1).length) + 1) 1 : AV) = .vec 12 (((List.take o67.toNat b1) ++ [0]).length) 1) (k2 ((Int.toNat_of_nonneg h92).symm : o67 = ((o67.toNat : Nat) : Int)) (k2 (⟨h104, Nat.le_refl _⟩ : o67.toNat ≤ b1.length ∧ b1.length ≤ b1.length) (k2 ((Nat.le_of_eq (fl_length1 (f := e_i64) (fun _ => rfl) _)) : List.length ((fl e_i64 b1) : List AV) ≤ b1.length) (k2 ((lst_eq (fl_drop1 (f := e_i64) (fun _ => rfl) _ _) (by rw [List.length_drop])) : (.lst (List.drop o67.toNat (fl e_i64 b1)) (b1.length - o67.toNat) : AV) = .lst (fl e_i64 (List.drop o67.toNat b1)) ((List.drop o67.toNat b1).length)) (k2 ((fl_length1 (f := e_i64) (fun _ => rfl) _) : List.length ((fl e_i64 (List.drop o67.toNat b1)) : List AV) = ((List.drop o67.toNat b1).length)) (k2 ((fl_length1 (f := e_i64) (fun _ => rfl) _) : List.length ((fl e_i64 ((List.take o67.toNat b1) ++ [0])) : List AV) = (((List.take o67.toNat b1) ++ [0]).length)) (k2 ((all_one (f := e_i64) (fun _ => rfl) _) : List.all ((fl e_i64 (List.drop o67.toNat b1)) : List AV) AV.one = true) (k2 h107 (k2 (fl_app.symm : (fl e_i64 ((List.take o67.toNat b1) ++ [0])) ++ (fl e_i64 (List.drop o67.toNat b1)) = (fl e_i64 (((List.take o67.toNat b1) ++ [0]) ++ (List.drop o67.toNat b1)))) (k2 ((by simp <;> omega) : (.vec 13 ((((List.take o67.toNat b1) ++ [0]).length) + ((List.drop o67.toNat b1).length)) 1 : AV) = .vec 13 ((((List.take o67.toNat b1) ++ [0]) ++ (List.drop o67.toNat b1)).length) 1) (k2 (ix h92 h109) (k2 (s_i64 h109) (k2 (ir h60) (k2 (fl_ne (f := TC.enc) (z := 6) (fun _ => rfl) h60) (k2 (fl_sub (f := TC.enc) (z := 7) (j := k6) (a := 6) (n := 1) (fun _ => rfl) h60 (by decide) rfl) (k2 h110 (k2 (ix h92 h109) (k2 (rm_i64 h109) (k2 (st_i64 (x108 + x59.Cents) h109) (ok1 h111)))))))))))))))))))))))))))))))))))))))))))))))))))))))))))))))))))))))
     ·obtain ⟨h112, h⟩ := gdS h
      obtain rfl := oL h
      exact Does.of_viewM 0 400 (f349 ++ (f351 ++ (f353 ++ [.br true, oc, ow, oc]))) [0, 1] (by kernel_rfl) (by kernel_rfl) (aO g350 (aO g352 (k2 (dT c65) (k2 (not_t (dF c66)) (ok1 h112)))))
    ·obtain ⟨h113, h⟩ := gdS h
     obtain rfl := oL h
     exact Does.of_viewM 0 400 (f349 ++ (f351 ++ (oF :: (cs 5 [.br true, oc, ow, oc])))) [0, 1] (by kernel_rfl) (by kernel_rfl) (aO g350 (aO g352 (k2 (dF c65) (k2 (rfl : true = true) (ok1 h113)))))
  ·simp at h
 ·obtain ⟨k6, b0, b1⟩ := s
  unfold f34Days_L1_step at h
  try dsimp only at h
  rcases itS h with ⟨c58, h⟩ | ⟨c58, h⟩
  ·obtain ⟨x59, h60, h⟩ := bnS h
   obtain ⟨r61, h62, h⟩ := bnS h
   rcases itS h with ⟨c63, h⟩ | ⟨c63, h⟩
   ·obtain ⟨h64, h⟩ := gdS h
    simp at h
   ·rcases itS h with ⟨c65, h⟩ | ⟨c65, h⟩
    ·rcases itS h with ⟨c66, h⟩ | ⟨c66, h⟩
     ·obtain ⟨o67, hl67, h⟩ := bnS h
      rcases itS h with ⟨c78, h⟩ | ⟨c78, h⟩
      ·obtain ⟨h79, h⟩ := gdS h
       obtain ⟨h80, h⟩ := gdS h
       obtain ⟨h81, h⟩ := gdS h
       obtain ⟨h82, h⟩ := gdS h
       obtain ⟨h83, h⟩ := gdS h
       obtain ⟨h84, h⟩ := gdS h
       obtain ⟨h85, h⟩ := gdS h
       obtain ⟨h86, h⟩ := gdS h
       obtain ⟨h87, h⟩ := gdS h
       obtain ⟨x88, h89, h⟩ := bnS h
       obtain ⟨h90, h⟩ := gdS h
       obtain ⟨h91, h⟩ := gdS h
       simp at h
      ·obtain ⟨h92, h⟩ := gdS h
       obtain ⟨x93, h94, h⟩ := bnS h
       rcases itS h with ⟨c95, h⟩ | ⟨c95, h⟩
       ·obtain ⟨x96, h97, h⟩ := bnS h
        obtain ⟨h98, h⟩ := gdS h
        obtain ⟨h99, h⟩ := gdS h
        simp at h
       ·obtain ⟨h100, h⟩ := gdS h
        obtain ⟨h101, h⟩ := gdS h
        obtain ⟨h102, h⟩ := gdS h
        obtain ⟨h103, h⟩ := gdS h
        obtain ⟨h104, h⟩ := gdS h
        obtain ⟨h105, h⟩ := gdS h
        obtain ⟨h106, h⟩ := gdS h
        obtain ⟨h107, h⟩ := gdS h
        obtain ⟨x108, h109, h⟩ := bnS h
        obtain ⟨h110, h⟩ := gdS h
        obtain ⟨h111, h⟩ := gdS h
        simp at h
     ·obtain ⟨h112, h⟩ := gdS h
      simp at h
    ·obtain ⟨h113, h⟩ := gdS h
     simp at h
  ·obtain rfl := oR h
   exact ⟨Does.of_viewM 0 400 (cs 3 [oa, .br false]) [0, 1] (by kernel_rfl) (by kernel_rfl) (ok1 (dF c58)), by intro q; cases q⟩
def f34Days (charges_0 : (List TC)) : Option ((List Int) × (List Int)) :=
 (lp (f34Days_L1_step charges_0) ((0 : Nat), ([] : (List Int)), ([] : (List Int)))).bind fun o1 =>
 some (o1.1, o1.2)
theorem f34Days_ret (charges_0 : (List TC)) (r : ((List Int) × (List Int))) (h : f34Days charges_0 = some r) : Ret Tryz.prog G0 47 [.lst (fl TC.enc charges_0) charges_0.length] (.tup [.vec 0 r.1.length 1, .vec 1 r.2.length 1]) [(bV (fl e_i64 r.1) 3), (bV (fl e_i64 r.2) 3)] := by
 unfold f34Days at h
 obtain ⟨o1, hl1, h⟩ := bnS h
 obtain rfl := oI h
 exact Ret.of_view 400 (cs 5 ((.tr (.vec (.t 4) 1 3)) :: (.tr (.vec (.t 5) 1 3)) :: (.fcut 0 (.exit 0) (f34Days_L1_T charges_0 o1) (f34Days_L1_B charges_0 o1) [0, 1] [(0, .any), (4, .vec 0 (([] : (List Int)).length) 1), (5, .vec 1 (([] : (List Int)).length) 1), (6, jI (↑(0 : Nat) : Int))] [(bV (fl e_i64 ([] : (List Int))) 3), (bV (fl e_i64 ([] : (List Int))) 3)]) :: (cs 4 []))) [2, 3] (by kernel_rfl) (by kernel_rfl) (k2 ((by first | rfl | simp only [List.length_replicate, List.length_set]) : (.vec 0 0 1 : AV) = .vec 0 (([] : (List Int)).length) 1) (k2 ((by first | rfl | simp only [List.length_replicate, List.length_set]) : (.vec 1 0 1 : AV) = .vec 1 (([] : (List Int)).length) 1) (k2 (rfl : (jI 0 : AV) = jI (↑(0 : Nat) : Int)) (k2 (rfl : ((bV [] 3) : Blk) = renB [0, 1] (bV (fl e_i64 ([] : (List Int))) 3)) (k2 (rfl : ((bV [] 3) : Blk) = renB [0, 1] (bV (fl e_i64 ([] : (List Int))) 3)) (ok1 (f34Days_L1_does charges_0 (s := ((0 : Nat), ([] : (List Int)), ([] : (List Int)))) (r := o1) hl1)))))))
def f50sum_L1_step (days_0 : (List Int)) (sums_1 : (List Int)) (day_2 : Int) : Nat → Option (Nat ⊕ (Int ⊕ Unit)) := fun k7 =>
 if (↑k7 : Int) < (↑days_0.length : Int) then
  (days_0[k7]?).bind fun x10 =>
  if x10 = day_2 then
   (sums_1[k7]?).bind fun x13 =>
   some (Sum.inr (Sum.inl x13))
  else
   if InR .i64 ((↑k7 : Int) + 1) then
    some (Sum.inl (k7 + 1))
   else none
 else
  some (Sum.inr (Sum.inr (())))
def f50sum_L1_H (days_0 : (List Int)) (sums_1 : (List Int)) (day_2 : Int) : Nat → St := fun (s : Nat) => S 24 [(0, .lst (fl e_i64 days_0) days_0.length), (1, .lst (fl e_i64 sums_1) sums_1.length), (2, .int .i64 day_2), (7, .int .i64 (↑s : Int))] []
def f50sum_L1_X (days_0 : (List Int)) (sums_1 : (List Int)) (day_2 : Int) : (Int ⊕ Unit) → AEx := fun q => match q with | Sum.inl o => .ret | Sum.inr (o) => (.exit 0)
def f50sum_L1_T (days_0 : (List Int)) (sums_1 : (List Int)) (day_2 : Int) : (Int ⊕ Unit) → List (Nat × AV) := fun q => match q with | Sum.inl o => [(6, .int .i64 o)] | Sum.inr (o) => []
def f50sum_L1_B (days_0 : (List Int)) (sums_1 : (List Int)) (day_2 : Int) : (Int ⊕ Unit) → List Blk := fun q => match q with | Sum.inl o => [] | Sum.inr (o) => []
def f50sum_L1_E (days_0 : (List Int)) (sums_1 : (List Int)) (day_2 : Int) (q : Int ⊕ Unit) : St := S 24 (f50sum_L1_T days_0 sums_1 day_2 q) (f50sum_L1_B days_0 sums_1 day_2 q)
theorem f50sum_L1_does (days_0 : (List Int)) (sums_1 : (List Int)) (day_2 : Int) {s : Nat} {r : Int ⊕ Unit} (h : lp (f50sum_L1_step days_0 sums_1 day_2) s = some r) : Does Tryz.prog G0 0 (.loop (bodyAt Tryz.prog 48 [1, 0, 1, 0, 0])) (f50sum_L1_H days_0 sums_1 day_2 s) (f50sum_L1_X days_0 sums_1 day_2 r) (f50sum_L1_E days_0 sums_1 day_2 r) := by
 refine Does.lp (H := f50sum_L1_H days_0 sums_1 day_2) (X := f50sum_L1_X days_0 sums_1 day_2) (E := f50sum_L1_E days_0 sums_1 day_2) (fun s s2 h => ?_) (fun s r h => ?_) h
 ·revert h; revert s; intro k7 h
  unfold f50sum_L1_step at h
  try dsimp only at h
  rcases itS h with ⟨c9, h⟩ | ⟨c9, h⟩
  ·obtain ⟨x10, h11, h⟩ := bnS h
   rcases itS h with ⟨c12, h⟩ | ⟨c12, h⟩
   ·obtain ⟨x13, h14, h⟩ := bnS h
    simp at h
   ·obtain ⟨h15, h⟩ := gdS h
    obtain rfl := oL h
    exact Does.of_viewM 0 400 (cs 3 (oa :: bt :: (cs 2 [.op none (.i k7), vI x10, oc, oa, .br false, oc, ow, oc]))) [] (by kernel_rfl) (by kernel_rfl) (k2 (dT c9) (k2 (ir h11) (k2 (fl_ne (f := e_i64) (z := 0) (fun _ => rfl) h11) (k2 (s_i64 h11) (k2 (beq_f c12) (ok1 h15))))))
  ·simp at h
 ·revert h; revert s; intro k7 h
  unfold f50sum_L1_step at h
  try dsimp only at h
  let f358 : List CH := (cs 3 [oa])
  rcases itS h with ⟨c9, h⟩ | ⟨c9, h⟩
  ·obtain ⟨x10, h11, h⟩ := bnS h
   rcases itS h with ⟨c12, h⟩ | ⟨c12, h⟩
   ·obtain ⟨x13, h14, h⟩ := bnS h
    obtain rfl := oR h
    exact ⟨Does.of_viewM 0 400 (f358 ++ (bt :: (cs 2 ((.op none (.i k7)) :: (vI x10) :: oc :: oa :: bt :: (cs 2 [.op none (.i k7), vI x13, oc]))))) [] (by kernel_rfl) (by kernel_rfl) (k2 (dT c9) (k2 (ir h11) (k2 (fl_ne (f := e_i64) (z := 0) (fun _ => rfl) h11) (k2 (s_i64 h11) (k2 (beq_t c12) (k2 (ir h14) (k2 (fl_ne (f := e_i64) (z := 0) (fun _ => rfl) h14) (ok1 (s_i64 h14))))))))), by intro q; cases q⟩
   ·obtain ⟨h15, h⟩ := gdS h
    simp at h
  ·obtain rfl := oR h
   exact ⟨Does.of_viewM 0 400 (f358 ++ [.br false]) [] (by kernel_rfl) (by kernel_rfl) (ok1 (dF c9)), by intro q; cases q⟩
def f50sum (days_0 : (List Int)) (sums_1 : (List Int)) (day_2 : Int) : Option Int :=
 (lp (f50sum_L1_step days_0 sums_1 day_2) (0 : Nat)).bind fun qq => match qq with
 | Sum.inl o1 =>
  some o1
 | Sum.inr (o1) =>
  some 0
theorem f50sum_ret (days_0 : (List Int)) (sums_1 : (List Int)) (day_2 : Int) (r : Int) (h : f50sum days_0 sums_1 day_2 = some r) : Ret Tryz.prog G0 48 [.lst (fl e_i64 days_0) days_0.length, .lst (fl e_i64 sums_1) sums_1.length, .int .i64 day_2] (.int .i64 r) [] := by
 unfold f50sum at h
 obtain ⟨qq, hl1, h⟩ := bnS h
 rcases qq with o1 | o1
 ·dsimp only at h
  obtain rfl := oI h
  exact Ret.of_view 400 (cs 2 [.fcut 0 .ret [(6, jI o1)] [] [] [(0, .any), (1, .any), (2, .any), (7, jI (↑(0 : Nat) : Int))] []]) [] (by kernel_rfl) (by kernel_rfl) (k2 (rfl : (jI 0 : AV) = jI (↑(0 : Nat) : Int)) (ok1 (f50sum_L1_does days_0 sums_1 day_2 (s := (0 : Nat)) (r := Sum.inl o1) hl1)))
 ·dsimp only at h
  obtain rfl := oI h
  exact Ret.of_view 400 (cs 2 [.fcut 0 (.exit 0) [] [] [] [(0, .any), (1, .any), (2, .any), (7, jI (↑(0 : Nat) : Int))] [], oc]) [] (by kernel_rfl) (by kernel_rfl) (k2 (rfl : (jI 0 : AV) = jI (↑(0 : Nat) : Int)) (ok1 (f50sum_L1_does days_0 sums_1 day_2 (s := (0 : Nat)) (r := Sum.inr (o1)) hl1)))
def f50Days_J200_step (r1 : ((List Int) × (List Int))) (r3 : ((List Int) × (List Int))) : (Int × Int × Int × (List TF)) → Option (Int × Int × (List TF))
 | (v10, v11, v12, b4) =>
  (f50sum r1.1 r1.2 v12).bind fun r207 =>
  (f50sum r3.1 r3.2 v12).bind fun r209 =>
  if r207 = r209 then
   some ((v10, v11, b4))
  else
   if b4.length + 1 ≤ 4294967296 then
    some ((v10, v11, (b4 ++ [(⟨([] : List UInt8), v12, r207, r209⟩ : TF)])))
   else none
def f50Days_J200_H (r1 : ((List Int) × (List Int))) (r3 : ((List Int) × (List Int))) : (Int × Int × Int × (List TF)) → St := fun (s : (Int × Int × Int × (List TF))) => S 111 [(5, .vec 0 r1.1.length 1), (6, .vec 1 r1.2.length 1), (7, .vec 2 r3.1.length 1), (8, .vec 3 r3.2.length 1), (9, .vec 4 s.2.2.2.length 4), (10, .int .i64 s.1), (11, .int .i64 s.2.1), (12, .int .i64 s.2.2.1)] [(bV (fl e_i64 r1.1) 3), (bV (fl e_i64 r1.2) 3), (bV (fl e_i64 r3.1) 3), (bV (fl e_i64 r3.2) 3), (bV (fl TF.enc s.2.2.2) 39)]
def f50Days_J200_X (r1 : ((List Int) × (List Int))) (r3 : ((List Int) × (List Int))) : (Int × Int × (List TF)) → AEx := fun o => .normal
def f50Days_J200_T (r1 : ((List Int) × (List Int))) (r3 : ((List Int) × (List Int))) : (Int × Int × (List TF)) → List (Nat × AV) := fun o => [(5, .vec 0 r1.1.length 1), (6, .vec 1 r1.2.length 1), (7, .vec 2 r3.1.length 1), (8, .vec 3 r3.2.length 1), (9, .vec 4 o.2.2.length 4), (10, .int .i64 o.1), (11, .int .i64 o.2.1)]
def f50Days_J200_B (r1 : ((List Int) × (List Int))) (r3 : ((List Int) × (List Int))) : (Int × Int × (List TF)) → List Blk := fun o => [(bV (fl e_i64 r1.1) 3), (bV (fl e_i64 r1.2) 3), (bV (fl e_i64 r3.1) 3), (bV (fl e_i64 r3.2) 3), (bV (fl TF.enc o.2.2) 39)]
def f50Days_J200_E (r1 : ((List Int) × (List Int))) (r3 : ((List Int) × (List Int))) (q : (Int × Int × (List TF))) : St := S 111 (f50Days_J200_T r1 r3 q) (f50Days_J200_B r1 r3 q)
theorem f50Days_J200_does (r1 : ((List Int) × (List Int))) (r3 : ((List Int) × (List Int))) {s : (Int × Int × Int × (List TF))} {r : (Int × Int × (List TF))} (h : f50Days_J200_step r1 r3 s = some r) : Does Tryz.prog G0 4 (bodyAt Tryz.prog 19 [1, 1, 1, 1, 1, 0, 0, 0, 1, 0, 1, 1, 1, 1]) (f50Days_J200_H r1 r3 s) (f50Days_J200_X r1 r3 r) (f50Days_J200_E r1 r3 r) := by
 obtain ⟨v10, v11, v12, b4⟩ := s
 unfold f50Days_J200_step at h
 try dsimp only at h
 obtain ⟨r207, h208, h⟩ := bnS h
 obtain ⟨r209, h210, h⟩ := bnS h
 let f385 : List CH := (cs 3 ((.ret none [.lst (fl e_i64 r1.1) r1.1.length, .lst (fl e_i64 r1.2) r1.2.length, .any] (.int .i64 r207) []) :: (cs 3 ((.ret none [.lst (fl e_i64 r3.1) r3.1.length, .lst (fl e_i64 r3.2) r3.2.length, .any] (.int .i64 r209) []) :: (cs 4 [oa])))))
 have g386 := k2 (⟨rfl, rfl, (fl_length1 (f := e_i64) (fun _ => rfl) _)⟩ : (fl e_i64 r1.1) = (fl e_i64 r1.1) ∧ r1.1.length = r1.1.length ∧ List.length ((fl e_i64 r1.1) : List AV) = r1.1.length) (k2 (⟨rfl, rfl, (fl_length1 (f := e_i64) (fun _ => rfl) _)⟩ : (fl e_i64 r1.2) = (fl e_i64 r1.2) ∧ r1.2.length = r1.2.length ∧ List.length ((fl e_i64 r1.2) : List AV) = r1.2.length) (k2 (trivial : datBlks []) (k2 (f50sum_ret r1.1 r1.2 v12 r207 h208) (k2 (⟨rfl, rfl, (fl_length1 (f := e_i64) (fun _ => rfl) _)⟩ : (fl e_i64 r3.1) = (fl e_i64 r3.1) ∧ r3.1.length = r3.1.length ∧ List.length ((fl e_i64 r3.1) : List AV) = r3.1.length) (k2 (⟨rfl, rfl, (fl_length1 (f := e_i64) (fun _ => rfl) _)⟩ : (fl e_i64 r3.2) = (fl e_i64 r3.2) ∧ r3.2.length = r3.2.length ∧ List.length ((fl e_i64 r3.2) : List AV) = r3.2.length) (k2 (trivial : datBlks []) (ok1 (f50sum_ret r3.1 r3.2 v12 r209 h210))))))))
 rcases itS h with ⟨c211, h⟩ | ⟨c211, h⟩
 ·obtain rfl := oI h
  exact Does.of_viewM 4 400 (f385 ++ [.br false]) [0, 1, 2, 3, 4] (by kernel_rfl) (by kernel_rfl) (aO g386 (ok1 (not_f (beq_t c211))))
 ·obtain ⟨h212, h⟩ := gdS h
  obtain rfl := oI h
  exact Does.of_viewM 4 400 (f385 ++ (bt :: (cs 6 [.op none (.ap 4), .tr (.eqc 6 (fl TF.enc (b4 ++ [(⟨([] : List UInt8), v12, r207, r209⟩ : TF)]))), .tr (.eqt (.t 109) (.vec 6 ((b4 ++ [(⟨([] : List UInt8), v12, r207, r209⟩ : TF)]).length) 4)), oc]))) [0, 1, 2, 3, 6] (by kernel_rfl) (by kernel_rfl) (aO g386 (k2 (not_t (beq_f c211)) (k2 ((nB rfl) : 0 + 4 ≤ List.length ([.str [], jI v12, jI r207, jI r209] : List AV)) (k2 ((fl_length (f := TF.enc) (z := 4) (fun _ => rfl) _) : List.length ((fl TF.enc b4) : List AV) = (b4.length * 4)) (k2 (rfl : List.all ([.str [], jI v12, jI r207, jI r209] : List AV) AV.one = true) (k2 h212 (k2 ((fl_snoc rfl) : (fl TF.enc b4) ++ [.str [], jI v12, jI r207, jI r209] = (fl TF.enc (b4 ++ [(⟨([] : List UInt8), v12, r207, r209⟩ : TF)]))) (ok1 ((by simp <;> omega) : (.vec 6 (b4.length + 1) 4 : AV) = .vec 6 ((b4 ++ [(⟨([] : List UInt8), v12, r207, r209⟩ : TF)]).length) 4)))))))))
def f50Days_J174_step (r1 : ((List Int) × (List Int))) (r3 : ((List Int) × (List Int))) : (Int × Int × Int × (List TF)) → Option (Int × Int × (List TF))
 | (v10, v11, v12, b4) =>
  if v11 < (↑r3.1.length : Int) then
   if (0 : Int) ≤ v11 then
    (r3.1[v11.toNat]?).bind fun x196 =>
    if x196 = v12 then
     if InR .i64 (v11 + 1) then
      (f50Days_J200_step r1 r3 (v10, (v11 + 1), v12, b4)).bind fun o200 =>
      some ((o200.1, o200.2.1, o200.2.2))
     else none
    else
     (f50Days_J200_step r1 r3 (v10, v11, v12, b4)).bind fun o200 =>
     some ((o200.1, o200.2.1, o200.2.2))
   else none
  else
   (f50Days_J200_step r1 r3 (v10, v11, v12, b4)).bind fun o200 =>
   some ((o200.1, o200.2.1, o200.2.2))
def f50Days_J174_H (r1 : ((List Int) × (List Int))) (r3 : ((List Int) × (List Int))) : (Int × Int × Int × (List TF)) → St := fun (s : (Int × Int × Int × (List TF))) => S 111 [(5, .vec 0 r1.1.length 1), (6, .vec 1 r1.2.length 1), (7, .vec 2 r3.1.length 1), (8, .vec 3 r3.2.length 1), (9, .vec 4 s.2.2.2.length 4), (10, .int .i64 s.1), (11, .int .i64 s.2.1), (12, .int .i64 s.2.2.1)] [(bV (fl e_i64 r1.1) 3), (bV (fl e_i64 r1.2) 3), (bV (fl e_i64 r3.1) 3), (bV (fl e_i64 r3.2) 3), (bV (fl TF.enc s.2.2.2) 39)]
def f50Days_J174_X (r1 : ((List Int) × (List Int))) (r3 : ((List Int) × (List Int))) : (Int × Int × (List TF)) → AEx := fun o => .normal
def f50Days_J174_T (r1 : ((List Int) × (List Int))) (r3 : ((List Int) × (List Int))) : (Int × Int × (List TF)) → List (Nat × AV) := fun o => [(5, .vec 0 r1.1.length 1), (6, .vec 1 r1.2.length 1), (7, .vec 2 r3.1.length 1), (8, .vec 3 r3.2.length 1), (9, .vec 4 o.2.2.length 4), (10, .int .i64 o.1), (11, .int .i64 o.2.1)]
def f50Days_J174_B (r1 : ((List Int) × (List Int))) (r3 : ((List Int) × (List Int))) : (Int × Int × (List TF)) → List Blk := fun o => [(bV (fl e_i64 r1.1) 3), (bV (fl e_i64 r1.2) 3), (bV (fl e_i64 r3.1) 3), (bV (fl e_i64 r3.2) 3), (bV (fl TF.enc o.2.2) 39)]
def f50Days_J174_E (r1 : ((List Int) × (List Int))) (r3 : ((List Int) × (List Int))) (q : (Int × Int × (List TF))) : St := S 111 (f50Days_J174_T r1 r3 q) (f50Days_J174_B r1 r3 q)
theorem f50Days_J174_does (r1 : ((List Int) × (List Int))) (r3 : ((List Int) × (List Int))) {s : (Int × Int × Int × (List TF))} {r : (Int × Int × (List TF))} (h : f50Days_J174_step r1 r3 s = some r) : Does Tryz.prog G0 4 (bodyAt Tryz.prog 19 [1, 1, 1, 1, 1, 0, 0, 0, 1, 0, 1, 1, 1]) (f50Days_J174_H r1 r3 s) (f50Days_J174_X r1 r3 r) (f50Days_J174_E r1 r3 r) := by
 obtain ⟨v10, v11, v12, b4⟩ := s
 unfold f50Days_J174_step at h
 try dsimp only at h
 let f387 : List CH := (cs 3 [oa, oc])
 rcases itS h with ⟨c194, h⟩ | ⟨c194, h⟩
 ·obtain ⟨h195, h⟩ := gdS h
  obtain ⟨x196, h197, h⟩ := bnS h
  let f388 : List CH := [tc, oc, .op none (.i v11.toNat), vI x196, oc, oa, oc]
  have g389 := k2 (dT c194) (k2 (ix h195 h197) (ok1 (s_i64 h197)))
  rcases itS h with ⟨c198, h⟩ | ⟨c198, h⟩
  ·obtain ⟨h199, h⟩ := gdS h
   obtain ⟨o200, hl200, h⟩ := bnS h
   obtain rfl := oI h
   exact Does.of_viewM 4 400 (f387 ++ (f388 ++ [.br true, oc, ow, oc, .fcuta 0 4 .normal (f50Days_J200_T r1 r3 o200) (f50Days_J200_B r1 r3 o200) [0, 1, 2, 3, 4] [(5, .any), (6, .any), (7, .any), (8, .any), (9, .any), (10, .any), (11, .any), (12, .any)] [bS, bS, bS, bS, bS]])) [0, 1, 2, 3, 9] (by kernel_rfl) (by kernel_rfl) (aO g389 (k2 (beq_t c198) (k2 h199 (ok1 (f50Days_J200_does r1 r3 (s := (v10, (v11 + 1), v12, b4)) (r := o200) hl200)))))
  ·obtain ⟨o200, hl200, h⟩ := bnS h
   obtain rfl := oI h
   exact Does.of_viewM 4 400 (f387 ++ (f388 ++ [.br false, .fcuta 1 4 .normal (f50Days_J200_T r1 r3 o200) (f50Days_J200_B r1 r3 o200) [0, 1, 2, 3, 4] [(5, .any), (6, .any), (7, .any), (8, .any), (9, .any), (10, .any), (11, .any), (12, .any)] [bS, bS, bS, bS, bS]])) [0, 1, 2, 3, 9] (by kernel_rfl) (by kernel_rfl) (aO g389 (k2 (beq_f c198) (ok1 (f50Days_J200_does r1 r3 (s := (v10, v11, v12, b4)) (r := o200) hl200))))
 ·obtain ⟨o200, hl200, h⟩ := bnS h
  obtain rfl := oI h
  exact Does.of_viewM 4 400 (f387 ++ (oF :: (cs 6 [.br false, .fcuta 1 4 .normal (f50Days_J200_T r1 r3 o200) (f50Days_J200_B r1 r3 o200) [0, 1, 2, 3, 4] [(5, .any), (6, .any), (7, .any), (8, .any), (9, .any), (10, .any), (11, .any), (12, .any)] [bS, bS, bS, bS, bS]]))) [0, 1, 2, 3, 9] (by kernel_rfl) (by kernel_rfl) (k2 (dF c194) (k2 (rfl : false = false) (ok1 (f50Days_J200_does r1 r3 (s := (v10, v11, v12, b4)) (r := o200) hl200))))
def f50Days_J122_step (r1 : ((List Int) × (List Int))) (r3 : ((List Int) × (List Int))) : (Int × Int × Int × (List TF)) → Option (Int × Int × (List TF))
 | (v10, v11, v12, b4) =>
  if v10 < (↑r1.1.length : Int) then
   if (0 : Int) ≤ v10 then
    (r1.1[v10.toNat]?).bind fun x170 =>
    if x170 = v12 then
     if InR .i64 (v10 + 1) then
      (f50Days_J174_step r1 r3 ((v10 + 1), v11, v12, b4)).bind fun o174 =>
      some ((o174.1, o174.2.1, o174.2.2))
     else none
    else
     (f50Days_J174_step r1 r3 (v10, v11, v12, b4)).bind fun o174 =>
     some ((o174.1, o174.2.1, o174.2.2))
   else none
  else
   (f50Days_J174_step r1 r3 (v10, v11, v12, b4)).bind fun o174 =>
   some ((o174.1, o174.2.1, o174.2.2))
def f50Days_J122_H (r1 : ((List Int) × (List Int))) (r3 : ((List Int) × (List Int))) : (Int × Int × Int × (List TF)) → St := fun (s : (Int × Int × Int × (List TF))) => S 111 [(5, .vec 0 r1.1.length 1), (6, .vec 1 r1.2.length 1), (7, .vec 2 r3.1.length 1), (8, .vec 3 r3.2.length 1), (9, .vec 4 s.2.2.2.length 4), (10, .int .i64 s.1), (11, .int .i64 s.2.1), (12, .int .i64 s.2.2.1)] [(bV (fl e_i64 r1.1) 3), (bV (fl e_i64 r1.2) 3), (bV (fl e_i64 r3.1) 3), (bV (fl e_i64 r3.2) 3), (bV (fl TF.enc s.2.2.2) 39)]
def f50Days_J122_X (r1 : ((List Int) × (List Int))) (r3 : ((List Int) × (List Int))) : (Int × Int × (List TF)) → AEx := fun o => .normal
def f50Days_J122_T (r1 : ((List Int) × (List Int))) (r3 : ((List Int) × (List Int))) : (Int × Int × (List TF)) → List (Nat × AV) := fun o => [(5, .vec 0 r1.1.length 1), (6, .vec 1 r1.2.length 1), (7, .vec 2 r3.1.length 1), (8, .vec 3 r3.2.length 1), (9, .vec 4 o.2.2.length 4), (10, .int .i64 o.1), (11, .int .i64 o.2.1)]
def f50Days_J122_B (r1 : ((List Int) × (List Int))) (r3 : ((List Int) × (List Int))) : (Int × Int × (List TF)) → List Blk := fun o => [(bV (fl e_i64 r1.1) 3), (bV (fl e_i64 r1.2) 3), (bV (fl e_i64 r3.1) 3), (bV (fl e_i64 r3.2) 3), (bV (fl TF.enc o.2.2) 39)]
def f50Days_J122_E (r1 : ((List Int) × (List Int))) (r3 : ((List Int) × (List Int))) (q : (Int × Int × (List TF))) : St := S 111 (f50Days_J122_T r1 r3 q) (f50Days_J122_B r1 r3 q)
theorem f50Days_J122_does (r1 : ((List Int) × (List Int))) (r3 : ((List Int) × (List Int))) {s : (Int × Int × Int × (List TF))} {r : (Int × Int × (List TF))} (h : f50Days_J122_step r1 r3 s = some r) : Does Tryz.prog G0 4 (bodyAt Tryz.prog 19 [1, 1, 1, 1, 1, 0, 0, 0, 1, 0, 1, 1]) (f50Days_J122_H r1 r3 s) (f50Days_J122_X r1 r3 r) (f50Days_J122_E r1 r3 r) := by
 obtain ⟨v10, v11, v12, b4⟩ := s
 unfold f50Days_J122_step at h
 try dsimp only at h
 let f390 : List CH := (cs 3 [oa, oc])
 rcases itS h with ⟨c168, h⟩ | ⟨c168, h⟩
 ·obtain ⟨h169, h⟩ := gdS h
  obtain ⟨x170, h171, h⟩ := bnS h
  let f391 : List CH := [tc, oc, .op none (.i v10.toNat), vI x170, oc, oa, oc]
  have g392 := k2 (dT c168) (k2 (ix h169 h171) (ok1 (s_i64 h171)))
  rcases itS h with ⟨c172, h⟩ | ⟨c172, h⟩
  ·obtain ⟨h173, h⟩ := gdS h
   obtain ⟨o174, hl174, h⟩ := bnS h
   obtain rfl := oI h
   exact Does.of_viewM 4 400 (f390 ++ (f391 ++ [.br true, oc, ow, oc, .fcuta 0 4 .normal (f50Days_J174_T r1 r3 o174) (f50Days_J174_B r1 r3 o174) [0, 1, 2, 3, 4] [(5, .any), (6, .any), (7, .any), (8, .any), (9, .any), (10, .any), (11, .any), (12, .any)] [bS, bS, bS, bS, bS]])) [0, 1, 2, 3, 9] (by kernel_rfl) (by kernel_rfl) (aO g392 (k2 (beq_t c172) (k2 h173 (ok1 (f50Days_J174_does r1 r3 (s := ((v10 + 1), v11, v12, b4)) (r := o174) hl174)))))
  ·obtain ⟨o174, hl174, h⟩ := bnS h
   obtain rfl := oI h
   exact Does.of_viewM 4 400 (f390 ++ (f391 ++ [.br false, .fcuta 1 4 .normal (f50Days_J174_T r1 r3 o174) (f50Days_J174_B r1 r3 o174) [0, 1, 2, 3, 4] [(5, .any), (6, .any), (7, .any), (8, .any), (9, .any), (10, .any), (11, .any), (12, .any)] [bS, bS, bS, bS, bS]])) [0, 1, 2, 3, 9] (by kernel_rfl) (by kernel_rfl) (aO g392 (k2 (beq_f c172) (ok1 (f50Days_J174_does r1 r3 (s := (v10, v11, v12, b4)) (r := o174) hl174))))
 ·obtain ⟨o174, hl174, h⟩ := bnS h
  obtain rfl := oI h
  exact Does.of_viewM 4 400 (f390 ++ (oF :: (cs 6 [.br false, .fcuta 1 4 .normal (f50Days_J174_T r1 r3 o174) (f50Days_J174_B r1 r3 o174) [0, 1, 2, 3, 4] [(5, .any), (6, .any), (7, .any), (8, .any), (9, .any), (10, .any), (11, .any), (12, .any)] [bS, bS, bS, bS, bS]]))) [0, 1, 2, 3, 9] (by kernel_rfl) (by kernel_rfl) (k2 (dF c168) (k2 (rfl : false = false) (ok1 (f50Days_J174_does r1 r3 (s := (v10, v11, v12, b4)) (r := o174) hl174))))
def f50Days_L5_step (r1 : ((List Int) × (List Int))) (r3 : ((List Int) × (List Int))) : (Int × Int × (List TF)) → Option ((Int × Int × (List TF)) ⊕ (List TF))
 | (v10, v11, b4) =>
  if v10 < (↑r1.1.length : Int) then
   if v11 = (↑r3.1.length : Int) then
    if (0 : Int) ≤ v10 then
     (r1.1[v10.toNat]?).bind fun x120 =>
     (f50Days_J122_step r1 r3 (v10, v11, x120, b4)).bind fun o122 =>
     some (Sum.inl (o122.1, o122.2.1, o122.2.2))
    else none
   else
    if (0 : Int) ≤ v10 then
     (r1.1[v10.toNat]?).bind fun x214 =>
     if (0 : Int) ≤ v11 then
      (r3.1[v11.toNat]?).bind fun x217 =>
      if x214 ≤ x217 then
       (f50Days_J122_step r1 r3 (v10, v11, x214, b4)).bind fun o122 =>
       some (Sum.inl (o122.1, o122.2.1, o122.2.2))
      else
       (f50Days_J122_step r1 r3 (v10, v11, x217, b4)).bind fun o122 =>
       some (Sum.inl (o122.1, o122.2.1, o122.2.2))
     else none
    else none
  else
   if v11 < (↑r3.1.length : Int) then
    if v11 = (↑r3.1.length : Int) then
     if (0 : Int) ≤ v10 then
      (r1.1[v10.toNat]?).bind fun x223 =>
      (f50Days_J122_step r1 r3 (v10, v11, x223, b4)).bind fun o122 =>
      some (Sum.inl (o122.1, o122.2.1, o122.2.2))
     else none
    else
     if (0 : Int) ≤ v11 then
      (r3.1[v11.toNat]?).bind fun x226 =>
      (f50Days_J122_step r1 r3 (v10, v11, x226, b4)).bind fun o122 =>
      some (Sum.inl (o122.1, o122.2.1, o122.2.2))
     else none
   else
    some (Sum.inr b4)
def f50Days_L5_H (r1 : ((List Int) × (List Int))) (r3 : ((List Int) × (List Int))) : (Int × Int × (List TF)) → St := fun (s : (Int × Int × (List TF))) => S 111 [(5, .vec 0 r1.1.length 1), (6, .vec 1 r1.2.length 1), (7, .vec 2 r3.1.length 1), (8, .vec 3 r3.2.length 1), (9, .vec 4 s.2.2.length 4), (10, .int .i64 s.1), (11, .int .i64 s.2.1)] [(bV (fl e_i64 r1.1) 3), (bV (fl e_i64 r1.2) 3), (bV (fl e_i64 r3.1) 3), (bV (fl e_i64 r3.2) 3), (bV (fl TF.enc s.2.2) 39)]
def f50Days_L5_X (r1 : ((List Int) × (List Int))) (r3 : ((List Int) × (List Int))) : (List TF) → AEx := fun o => (.exit 0)
def f50Days_L5_T (r1 : ((List Int) × (List Int))) (r3 : ((List Int) × (List Int))) : (List TF) → List (Nat × AV) := fun o => [(9, .vec 4 o.length 4)]
def f50Days_L5_B (r1 : ((List Int) × (List Int))) (r3 : ((List Int) × (List Int))) : (List TF) → List Blk := fun o => [(bV (fl e_i64 r1.1) 3), (bV (fl e_i64 r1.2) 3), (bV (fl e_i64 r3.1) 3), (bV (fl e_i64 r3.2) 3), (bV (fl TF.enc o) 39)]
def f50Days_L5_E (r1 : ((List Int) × (List Int))) (r3 : ((List Int) × (List Int))) (q : (List TF)) : St := S 111 (f50Days_L5_T r1 r3 q) (f50Days_L5_B r1 r3 q)
theorem f50Days_L5_does (r1 : ((List Int) × (List Int))) (r3 : ((List Int) × (List Int))) {s : (Int × Int × (List TF))} {r : (List TF)} (h : lp (f50Days_L5_step r1 r3) s = some r) : Does Tryz.prog G0 4 (.loop (bodyAt Tryz.prog 19 [1, 1, 1, 1, 1, 0, 0, 0])) (f50Days_L5_H r1 r3 s) (f50Days_L5_X r1 r3 r) (f50Days_L5_E r1 r3 r) := by
 refine Does.lp (H := f50Days_L5_H r1 r3) (X := f50Days_L5_X r1 r3) (E := f50Days_L5_E r1 r3) (fun s s2 h => ?_) (fun s r h => ?_) h
 ·obtain ⟨v10, v11, b4⟩ := s
  unfold f50Days_L5_step at h
  try dsimp only at h
  let f393 : List CH := (cs 3 [oa, oc])
  rcases itS h with ⟨c117, h⟩ | ⟨c117, h⟩
  ·let f394 : List CH := (tc :: (cs 4 (bt :: (cs 4 [oa, oc]))))
   have g395 := k2 (dT c117) (k2 (rfl : true = true) (ok1 (⟨rfl, trivial⟩ : (some (Ob.blk (bV (fl e_i64 r3.1) 3)) = some (Ob.blk (bV (fl e_i64 r3.1) 3))) ∧ True)))
   rcases itS h with ⟨c118, h⟩ | ⟨c118, h⟩
   ·obtain ⟨h119, h⟩ := gdS h
    obtain ⟨x120, h121, h⟩ := bnS h
    obtain ⟨o122, hl122, h⟩ := bnS h
    obtain rfl := oL h
    exact Does.of_viewM 4 400 (f393 ++ (f394 ++ (tc :: tc :: tc :: tc :: tc :: (cs 9 (tc :: (.op none (.b true)) :: bt :: (cs 2 [.op none (.i v10.toNat), vI x120, oc, .fcuta 0 4 .normal (f50Days_J122_T r1 r3 o122) (f50Days_J122_B r1 r3 o122) [0, 1, 2, 3, 4] [(5, .any), (6, .any), (7, .any), (8, .any), (9, .any), (10, .any), (11, .any), (12, .any)] [bS, bS, bS, bS, bS]])))))) [0, 1, 2, 3, 9] (by kernel_rfl) (by kernel_rfl) (aO g395 (k2 (beq_t c118) (k2 (beq_t c118) (k2 (beq_t c118) (k2 (beq_t c118) (k2 (beq_t c118) (k2 (beq_t c118) (k2 (beq_t c118) (k2 (rfl : true = true) (k2 (ix h119 h121) (k2 (s_i64 h121) (ok1 (f50Days_J122_does r1 r3 (s := (v10, v11, x120, b4)) (r := o122) hl122)))))))))))))
   ·obtain ⟨h213, h⟩ := gdS h
    obtain ⟨x214, h215, h⟩ := bnS h
    obtain ⟨h216, h⟩ := gdS h
    obtain ⟨x217, h218, h⟩ := bnS h
    let f396 : List CH := [.op (some false) .c, .op (some false) .c, .op (some false) .c, .op (some false) .a, .op (some false) .c, tc, tc, .op (some true) (.i v10.toNat), .op (some true) (.v [.int .i64 x214]), tc, tc, .op (some true) (.i v11.toNat), .op (some true) (.v [.int .i64 x217]), ta, .op (some false) (.b true), .op none (.b false)]
    have g397 := k2 (beq_f c118) (k2 (beq_f c118) (k2 (beq_f c118) (k2 (⟨rfl, trivial⟩ : (some (Ob.blk (bV (fl e_i64 r1.1) 3)) = some (Ob.blk (bV (fl e_i64 r1.1) 3))) ∧ True) (k2 (beq_f c118) (k2 (beq_f c118) (k2 (dT c117) (k2 (dT c117) (k2 (dT c117) (k2 (ix h213 h215) (k2 (dT c117) (k2 (s_i64 h215) (k2 (dT c117) (k2 (dT c117) (k2 (dT c117) (k2 (ix h216 h218) (k2 (dT c117) (k2 (s_i64 h218) (k2 (dT c117) (k2 (beq_f c118) (k2 (dT c117) (ok1 (beq_f c118))))))))))))))))))))))
    rcases itS h with ⟨c219, h⟩ | ⟨c219, h⟩
    ·obtain ⟨o122, hl122, h⟩ := bnS h
     obtain rfl := oL h
     exact Does.of_viewM 4 400 (f393 ++ (f394 ++ (f396 ++ (bt :: (cs 2 [.op none (.i v10.toNat), vI x214, oc, .fcuta 0 4 .normal (f50Days_J122_T r1 r3 o122) (f50Days_J122_B r1 r3 o122) [0, 1, 2, 3, 4] [(5, .any), (6, .any), (7, .any), (8, .any), (9, .any), (10, .any), (11, .any), (12, .any)] [bS, bS, bS, bS, bS]]))))) [0, 1, 2, 3, 9] (by kernel_rfl) (by kernel_rfl) (aO g395 (aO g397 (k2 (dT c219) (k2 (ix h213 h215) (k2 (s_i64 h215) (ok1 (f50Days_J122_does r1 r3 (s := (v10, v11, x214, b4)) (r := o122) hl122)))))))
    ·obtain ⟨o122, hl122, h⟩ := bnS h
     obtain rfl := oL h
     exact Does.of_viewM 4 400 (f393 ++ (f394 ++ (f396 ++ (bf :: (cs 2 [.op none (.i v11.toNat), vI x217, oc, .fcuta 0 4 .normal (f50Days_J122_T r1 r3 o122) (f50Days_J122_B r1 r3 o122) [0, 1, 2, 3, 4] [(5, .any), (6, .any), (7, .any), (8, .any), (9, .any), (10, .any), (11, .any), (12, .any)] [bS, bS, bS, bS, bS]]))))) [0, 1, 2, 3, 9] (by kernel_rfl) (by kernel_rfl) (aO g395 (aO g397 (k2 (dF c219) (k2 (ix h216 h218) (k2 (s_i64 h218) (ok1 (f50Days_J122_does r1 r3 (s := (v10, v11, x217, b4)) (r := o122) hl122)))))))
  ·rcases itS h with ⟨c220, h⟩ | ⟨c220, h⟩
   ·let f398 : List CH := (oF :: (cs 2 (oa :: oc :: bt :: (cs 4 [oa, oc]))))
    have g399 := k2 (dF c117) (k2 (dT c220) (ok1 (⟨rfl, trivial⟩ : (some (Ob.blk (bV (fl e_i64 r3.1) 3)) = some (Ob.blk (bV (fl e_i64 r3.1) 3))) ∧ True)))
    rcases itS h with ⟨c221, h⟩ | ⟨c221, h⟩
    ·obtain ⟨h222, h⟩ := gdS h
     obtain ⟨x223, h224, h⟩ := bnS h
     obtain ⟨o122, hl122, h⟩ := bnS h
     obtain rfl := oL h
     exact Does.of_viewM 4 400 (f393 ++ (f398 ++ (tc :: tc :: tc :: tc :: tc :: (cs 9 (tc :: (.op none (.b true)) :: bt :: (cs 2 [.op none (.i v10.toNat), vI x223, oc, .fcuta 0 4 .normal (f50Days_J122_T r1 r3 o122) (f50Days_J122_B r1 r3 o122) [0, 1, 2, 3, 4] [(5, .any), (6, .any), (7, .any), (8, .any), (9, .any), (10, .any), (11, .any), (12, .any)] [bS, bS, bS, bS, bS]])))))) [0, 1, 2, 3, 9] (by kernel_rfl) (by kernel_rfl) (aO g399 (k2 (beq_t c221) (k2 (beq_t c221) (k2 (beq_t c221) (k2 (beq_t c221) (k2 (beq_t c221) (k2 (beq_t c221) (k2 (beq_t c221) (k2 (rfl : true = true) (k2 (ix h222 h224) (k2 (s_i64 h224) (ok1 (f50Days_J122_does r1 r3 (s := (v10, v11, x223, b4)) (r := o122) hl122)))))))))))))
    ·obtain ⟨h225, h⟩ := gdS h
     obtain ⟨x226, h227, h⟩ := bnS h
     obtain ⟨o122, hl122, h⟩ := bnS h
     obtain rfl := oL h
     exact Does.of_viewM 4 400 (f393 ++ (f398 ++ (oF :: oF :: oF :: oG :: oF :: oF :: oF :: oF :: oF :: oF :: oF :: oF :: oF :: oF :: (.op (some false) (.b false)) :: (.op none (.b false)) :: bf :: (cs 2 [.op none (.i v11.toNat), vI x226, oc, .fcuta 0 4 .normal (f50Days_J122_T r1 r3 o122) (f50Days_J122_B r1 r3 o122) [0, 1, 2, 3, 4] [(5, .any), (6, .any), (7, .any), (8, .any), (9, .any), (10, .any), (11, .any), (12, .any)] [bS, bS, bS, bS, bS]])))) [0, 1, 2, 3, 9] (by kernel_rfl) (by kernel_rfl) (aO g399 (k2 (beq_f c221) (k2 (beq_f c221) (k2 (beq_f c221) (k2 (⟨rfl, trivial⟩ : (some (Ob.blk (bV (fl e_i64 r1.1) 3)) = some (Ob.blk (bV (fl e_i64 r1.1) 3))) ∧ True) (k2 (beq_f c221) (k2 (beq_f c221) (k2 (dF c117) (k2 (dF c117) (k2 (dF c117) (k2 (dF c117) (k2 (dF c117) (k2 (dF c117) (k2 (dF c117) (k2 (dF c117) (k2 (dF c117) (k2 (beq_f c221) (k2 (dF c117) (k2 (beq_f c221) (k2 (rfl : false = false) (k2 (ix h225 h227) (k2 (s_i64 h227) (ok1 (f50Days_J122_does r1 r3 (s := (v10, v11, x226, b4)) (r := o122) hl122))))))))))))))))))))))))
   ·simp at h
 ·obtain ⟨v10, v11, b4⟩ := s
  unfold f50Days_L5_step at h
  try dsimp only at h
  rcases itS h with ⟨c117, h⟩ | ⟨c117, h⟩
  ·rcases itS h with ⟨c118, h⟩ | ⟨c118, h⟩
   ·obtain ⟨h119, h⟩ := gdS h
    obtain ⟨x120, h121, h⟩ := bnS h
    obtain ⟨o122, hl122, h⟩ := bnS h
    simp at h
   ·obtain ⟨h213, h⟩ := gdS h
    obtain ⟨x214, h215, h⟩ := bnS h
    obtain ⟨h216, h⟩ := gdS h
    obtain ⟨x217, h218, h⟩ := bnS h
    rcases itS h with ⟨c219, h⟩ | ⟨c219, h⟩
    ·obtain ⟨o122, hl122, h⟩ := bnS h
     simp at h
    ·obtain ⟨o122, hl122, h⟩ := bnS h
     simp at h
  ·rcases itS h with ⟨c220, h⟩ | ⟨c220, h⟩
   ·rcases itS h with ⟨c221, h⟩ | ⟨c221, h⟩
    ·obtain ⟨h222, h⟩ := gdS h
     obtain ⟨x223, h224, h⟩ := bnS h
     obtain ⟨o122, hl122, h⟩ := bnS h
     simp at h
    ·obtain ⟨h225, h⟩ := gdS h
     obtain ⟨x226, h227, h⟩ := bnS h
     obtain ⟨o122, hl122, h⟩ := bnS h
     simp at h
   ·obtain rfl := oR h
    exact ⟨Does.of_viewM 4 400 (cs 3 (oa :: oc :: oF :: (cs 2 [oa, oc, .br false]))) [0, 1, 2, 3, 4] (by kernel_rfl) (by kernel_rfl) (k2 (dF c117) (ok1 (dF c220))), by intro q; cases q⟩
def f50Days (have_0 : (List TC)) (want_1 : (List TC)) : Option (List TF) :=
 (f34Days have_0).bind fun r1 =>
 (f34Days want_1).bind fun r3 =>
 (lp (f50Days_L5_step r1 r3) ((0 : Int), (0 : Int), ([] : (List TF)))).bind fun o5 =>
 some o5
theorem f50Days_ret (have_0 : (List TC)) (want_1 : (List TC)) (r : (List TF)) (h : f50Days have_0 want_1 = some r) : Ret Tryz.prog G0 19 [.lst (fl TC.enc have_0) have_0.length, .lst (fl TC.enc want_1) want_1.length] (.vec 0 r.length 4) [(bV (fl TF.enc r) 39)] := by
 unfold f50Days at h
 obtain ⟨r1, h2, h⟩ := bnS h
 obtain ⟨r3, h4, h⟩ := bnS h
 obtain ⟨o5, hl5, h⟩ := bnS h
 obtain rfl := oI h
 exact Ret.of_view 400 (cs 2 ((.ret none [.any] (.tup [.vec 0 r1.1.length 1, .vec 1 r1.2.length 1]) [(bV (fl e_i64 r1.1) 3), (bV (fl e_i64 r1.2) 3)]) :: (cs 6 ((.ret none [.any] (.tup [.vec 0 r3.1.length 1, .vec 1 r3.2.length 1]) [(bV (fl e_i64 r3.1) 3), (bV (fl e_i64 r3.2) 3)]) :: (cs 8 ((.tr (.vec (.t 9) 4 39)) :: (.fcut 4 (.exit 0) [(9, .vec 4 o5.length 4)] (f50Days_L5_B r1 r3 o5) [0, 1, 2, 3, 4] [(5, .any), (6, .any), (7, .any), (8, .any), (9, .vec 4 (([] : (List TF)).length) 4), (10, jI (0 : Int)), (11, jI (0 : Int))] [bS, bS, bS, bS, (bV (fl TF.enc ([] : (List TF))) 39)]) :: (cs 2 []))))))) [9] (by kernel_rfl) (by kernel_rfl) (k2 (f34Days_ret have_0 r1 h2) (k2 (f34Days_ret want_1 r3 h4) (k2 ((by first | rfl | simp only [List.length_replicate, List.length_set]) : (.vec 4 0 4 : AV) = .vec 4 (([] : (List TF)).length) 4) (k2 (rfl : (jI 0 : AV) = jI (0 : Int)) (k2 (rfl : (jI 0 : AV) = jI (0 : Int)) (k2 (rfl : ((bV [] 39) : Blk) = renB [0, 1, 2, 3, 4] (bV (fl TF.enc ([] : (List TF))) 39)) (ok1 (f50Days_L5_does r1 r3 (s := ((0 : Int), (0 : Int), ([] : (List TF)))) (r := o5) hl5))))))))
def f50Lost_L3_step (have_0 : (List TC)) (want_1 : (List TC)) (r1 : (List (List UInt8))) : (Int × Nat) → Option ((Int × Nat) ⊕ Int)
 | (v6, k7) =>
  if (↑k7 : Int) < (↑r1.length : Int) then
   (r1[k7]?).bind fun x20 =>
   (f50Of have_0 x20).bind fun r22 =>
   (f50Of want_1 x20).bind fun r24 =>
   if r22.2 = true then
    if InR .i64 ((↑k7 : Int) + 1) then
     some (Sum.inl (v6, (k7 + 1)))
    else none
   else
    if r24.1.Cents ≥ (0 : Int) then
     if r24.1.Cents ≤ (1125899906842624 : Int) then
      if InR .i64 (v6 + r24.1.Cents) then
       if InR .i64 ((↑k7 : Int) + 1) then
        some (Sum.inl ((v6 + r24.1.Cents), (k7 + 1)))
       else none
      else none
     else
      if InR .i64 ((↑k7 : Int) + 1) then
       some (Sum.inl (v6, (k7 + 1)))
      else none
    else
     if InR .i64 ((↑k7 : Int) + 1) then
      some (Sum.inl (v6, (k7 + 1)))
     else none
  else
   some (Sum.inr v6)
def f50Lost_L3_H (have_0 : (List TC)) (want_1 : (List TC)) (r1 : (List (List UInt8))) : (Int × Nat) → St := fun (s : (Int × Nat)) => S 55 [(0, .lst (fl TC.enc have_0) have_0.length), (1, .lst (fl TC.enc want_1) want_1.length), (5, .lst (fl e_str r1) r1.length), (6, .int .i64 s.1), (7, .int .i64 (↑s.2 : Int))] []
def f50Lost_L3_X (have_0 : (List TC)) (want_1 : (List TC)) (r1 : (List (List UInt8))) : Int → AEx := fun o => (.exit 0)
def f50Lost_L3_T (have_0 : (List TC)) (want_1 : (List TC)) (r1 : (List (List UInt8))) : Int → List (Nat × AV) := fun o => [(6, .int .i64 o)]
def f50Lost_L3_B (have_0 : (List TC)) (want_1 : (List TC)) (r1 : (List (List UInt8))) : Int → List Blk := fun o => []
def f50Lost_L3_E (have_0 : (List TC)) (want_1 : (List TC)) (r1 : (List (List UInt8))) (q : Int) : St := S 55 (f50Lost_L3_T have_0 want_1 r1 q) (f50Lost_L3_B have_0 want_1 r1 q)
theorem f50Lost_L3_does (have_0 : (List TC)) (want_1 : (List TC)) (r1 : (List (List UInt8))) {s : (Int × Nat)} {r : Int} (h : lp (f50Lost_L3_step have_0 want_1 r1) s = some r) : Does Tryz.prog G0 0 (.loop (bodyAt Tryz.prog 21 [1, 1, 1, 0, 1, 0, 0])) (f50Lost_L3_H have_0 want_1 r1 s) (f50Lost_L3_X have_0 want_1 r1 r) (f50Lost_L3_E have_0 want_1 r1 r) := by
 refine Does.lp (H := f50Lost_L3_H have_0 want_1 r1) (X := f50Lost_L3_X have_0 want_1 r1) (E := f50Lost_L3_E have_0 want_1 r1) (fun s s2 h => ?_) (fun s r h => ?_) h
 ·obtain ⟨v6, k7⟩ := s
  unfold f50Lost_L3_step at h
  try dsimp only at h
  rcases itS h with ⟨c19, h⟩ | ⟨c19, h⟩
  ·obtain ⟨x20, h21, h⟩ := bnS h
   obtain ⟨r22, h23, h⟩ := bnS h
   obtain ⟨r24, h25, h⟩ := bnS h
   let f400 : List CH := (cs 3 (oa :: bt :: (cs 3 ((.op none (.i k7)) :: (.op none (.v [.str x20])) :: (.ret none [.any, .any] (.tup [.agg (TC.enc r22.1), .bool r22.2]) []) :: (cs 9 ((.op none (.i k7)) :: (.op none (.v [.str x20])) :: (.ret none [.any, .any] (.tup [.agg (TC.enc r24.1), .bool r24.2]) []) :: (cs 9 [])))))))
   have g401 := k2 (dT c19) (k2 (ir h21) (k2 (fl_ne (f := e_str) (z := 0) (fun _ => rfl) h21) (k2 (s_str h21) (k2 (f50Of_ret have_0 x20 r22 h23) (k2 (ir h21) (k2 (fl_ne (f := e_str) (z := 0) (fun _ => rfl) h21) (k2 (s_str h21) (ok1 (f50Of_ret want_1 x20 r24 h25)))))))))
   rcases itS h with ⟨c26, h⟩ | ⟨c26, h⟩
   ·obtain ⟨h27, h⟩ := gdS h
    obtain rfl := oL h
    exact Does.of_viewM 0 400 (f400 ++ (oF :: (cs 8 [.br false, oc, ow, oc]))) [] (by kernel_rfl) (by kernel_rfl) (aO g401 (k2 ((not_f c26) : (!r22.2) = false) (k2 (rfl : false = false) (ok1 h27))))
   ·let f402 : List CH := (tc :: oc :: oa :: (cs 2 []))
    rcases itS h with ⟨c28, h⟩ | ⟨c28, h⟩
    ·let f403 : List CH := [tc, oc, oa, oc]
     rcases itS h with ⟨c29, h⟩ | ⟨c29, h⟩
     ·obtain ⟨h30, h⟩ := gdS h
      obtain ⟨h31, h⟩ := gdS h
      obtain rfl := oL h
      exact Does.of_viewM 0 400 (f400 ++ (f402 ++ (f403 ++ (bt :: (cs 3 (ow :: (cs 2 [ow, oc]))))))) [] (by kernel_rfl) (by kernel_rfl) (aO g401 (k2 ((not_t (eq_false_of_ne_true c26)) : (!r22.2) = true) (k2 (dT c28) (k2 (dT c29) (k2 h30 (ok1 h31))))))
     ·obtain ⟨h32, h⟩ := gdS h
      obtain rfl := oL h
      exact Does.of_viewM 0 400 (f400 ++ (f402 ++ (f403 ++ [.br false, oc, ow, oc]))) [] (by kernel_rfl) (by kernel_rfl) (aO g401 (k2 ((not_t (eq_false_of_ne_true c26)) : (!r22.2) = true) (k2 (dT c28) (k2 (dF c29) (ok1 h32)))))
    ·obtain ⟨h33, h⟩ := gdS h
     obtain rfl := oL h
     exact Does.of_viewM 0 400 (f400 ++ (f402 ++ (oF :: (cs 3 [.br false, oc, ow, oc])))) [] (by kernel_rfl) (by kernel_rfl) (aO g401 (k2 ((not_t (eq_false_of_ne_true c26)) : (!r22.2) = true) (k2 (dF c28) (k2 (rfl : false = false) (ok1 h33)))))
  ·simp at h
 ·obtain ⟨v6, k7⟩ := s
  unfold f50Lost_L3_step at h
  try dsimp only at h
  rcases itS h with ⟨c19, h⟩ | ⟨c19, h⟩
  ·obtain ⟨x20, h21, h⟩ := bnS h
   obtain ⟨r22, h23, h⟩ := bnS h
   obtain ⟨r24, h25, h⟩ := bnS h
   rcases itS h with ⟨c26, h⟩ | ⟨c26, h⟩
   ·obtain ⟨h27, h⟩ := gdS h
    simp at h
   ·rcases itS h with ⟨c28, h⟩ | ⟨c28, h⟩
    ·rcases itS h with ⟨c29, h⟩ | ⟨c29, h⟩
     ·obtain ⟨h30, h⟩ := gdS h
      obtain ⟨h31, h⟩ := gdS h
      simp at h
     ·obtain ⟨h32, h⟩ := gdS h
      simp at h
    ·obtain ⟨h33, h⟩ := gdS h
     simp at h
  ·obtain rfl := oR h
   exact ⟨Does.of_viewM 0 400 (cs 3 [oa, .br false]) [] (by kernel_rfl) (by kernel_rfl) (ok1 (dF c19)), by intro q; cases q⟩
def f50Lost (have_0 : (List TC)) (want_1 : (List TC)) : Option Int :=
 (f50Keys [] want_1).bind fun r1 =>
 (lp (f50Lost_L3_step have_0 want_1 r1) ((0 : Int), (0 : Nat))).bind fun o3 =>
 some o3
theorem f50Lost_ret (have_0 : (List TC)) (want_1 : (List TC)) (r : Int) (h : f50Lost have_0 want_1 = some r) : Ret Tryz.prog G0 21 [.lst (fl TC.enc have_0) have_0.length, .lst (fl TC.enc want_1) want_1.length] (.int .i64 r) [] := by
 unfold f50Lost at h
 obtain ⟨r1, h2, h⟩ := bnS h
 obtain ⟨o3, hl3, h⟩ := bnS h
 obtain rfl := oI h
 exact Ret.of_view 400 (cs 2 ((.ret none [.lst [] 0, .any] (.lst (fl e_str r1) r1.length) []) :: (cs 3 ((.fcut 0 (.exit 0) [(6, jI o3)] [] [] [(0, .any), (1, .any), (5, .any), (6, jI (0 : Int)), (7, jI (↑(0 : Nat) : Int))] []) :: (cs 2 []))))) [] (by kernel_rfl) (by kernel_rfl) (k2 (f50Keys_ret [] want_1 r1 h2) (k2 (rfl : (jI 0 : AV) = jI (0 : Int)) (k2 (rfl : (jI 0 : AV) = jI (↑(0 : Nat) : Int)) (ok1 (f50Lost_L3_does have_0 want_1 r1 (s := ((0 : Int), (0 : Nat))) (r := o3) hl3)))))
def w5of_L3_step (day_1 : Int) (r1 : ((List Int) × (List Int))) : Nat → Option (Nat ⊕ (Int ⊕ Unit)) := fun k7 =>
 if (↑k7 : Int) < (↑r1.1.length : Int) then
  if (↑k7 : Int) < (↑r1.2.length : Int) then
   (r1.1[k7]?).bind fun x14 =>
   if x14 = day_1 then
    (r1.2[k7]?).bind fun x17 =>
    some (Sum.inr (Sum.inl x17))
   else
    if InR .i64 ((↑k7 : Int) + 1) then
     some (Sum.inl (k7 + 1))
    else none
  else
   some (Sum.inr (Sum.inr (())))
 else
  some (Sum.inr (Sum.inr (())))
def w5of (l_0 : (List TC)) (day_1 : Int) : Option Int :=
 (bill_Days l_0).bind fun r1 =>
 (lp (w5of_L3_step day_1 r1) (0 : Nat)).bind fun qq => match qq with
 | Sum.inl o3 =>
  some o3
 | Sum.inr (o3) =>
  some 0
end
end Go.Proofs.YtpadimnchmghpaaGreatDoor.Av
