import Derived.Test.YtpadimnchmghpaaGreatDoorL0
import Derived.Test.YtpadimnchmghpaaGreatDoorFrN
open Prod (fst)
open Int (tdiv tmod)
set_option maxHeartbeats 4000000
set_option maxRecDepth 100000
set_option linter.unusedVariables false
set_option linter.unusedSimpArgs false
namespace Go.Proofs.YtpadimnchmghpaaGreatDoor.Av
noncomputable section
open Go Go.Proofs
structure Tstay_from where
 uzone : (List UInt8)
 uplate : (List UInt8)
def Tstay_from.enc (x : Tstay_from) : List AV := [.str x.uzone, .str x.uplate]
noncomputable instance : DecidableEq Tstay_from := fun _ _ => Classical.propDecidable _
structure Tcap_spent where
 ucap : Int
 uperiod : Int
def Tcap_spent.enc (x : Tcap_spent) : List AV := [.int .i64 x.ucap, .int .i64 x.uperiod]
noncomputable instance : DecidableEq Tcap_spent := fun _ _ => Classical.propDecidable _
def w5awake_L12_step  : (Nat × (List TF)) → Option ((Nat × (List TF)) ⊕ (List TF))
 | (k24, b41) =>
  if (↑k24 : Int) < (↑((sortI (List.map fst (mrgK fst (setK fst ([] : List (Int × Int)) (1, 300)) (setK fst ([] : List (Int × Int)) (1, 550))))).length) : Int) then
   ((sortI (List.map fst (mrgK fst (setK fst ([] : List (Int × Int)) (1, 300)) (setK fst ([] : List (Int × Int)) (1, 550)))))[k24]?).bind fun x39 =>
   if ((getK fst (setK fst ([] : List (Int × Int)) (1, 300)) x39).isSome) = true then
    (getK fst (setK fst ([] : List (Int × Int)) (1, 300)) x39).bind fun q42 =>
    if ((getK fst (setK fst ([] : List (Int × Int)) (1, 550)) x39).isSome) = true then
     (getK fst (setK fst ([] : List (Int × Int)) (1, 550)) x39).bind fun q45 =>
     if q42.2 = q45.2 then
      if InR .i64 ((↑k24 : Int) + 1) then
       some (Sum.inl ((k24 + 1), b41))
      else none
     else
      if b41.length + 1 ≤ 4294967296 then
       if InR .i64 ((↑k24 : Int) + 1) then
        some (Sum.inl ((k24 + 1), (b41 ++ [(⟨([] : List UInt8), x39, q42.2, q45.2⟩ : TF)])))
       else none
      else none
    else
     if q42.2 = (0 : Int) then
      if InR .i64 ((↑k24 : Int) + 1) then
       some (Sum.inl ((k24 + 1), b41))
      else none
     else
      if b41.length + 1 ≤ 4294967296 then
       if InR .i64 ((↑k24 : Int) + 1) then
        some (Sum.inl ((k24 + 1), (b41 ++ [(⟨([] : List UInt8), x39, q42.2, 0⟩ : TF)])))
       else none
      else none
   else
    if ((getK fst (setK fst ([] : List (Int × Int)) (1, 550)) x39).isSome) = true then
     (getK fst (setK fst ([] : List (Int × Int)) (1, 550)) x39).bind fun q56 =>
     if (0 : Int) = q56.2 then
      if InR .i64 ((↑k24 : Int) + 1) then
       some (Sum.inl ((k24 + 1), b41))
      else none
     else
      if b41.length + 1 ≤ 4294967296 then
       if InR .i64 ((↑k24 : Int) + 1) then
        some (Sum.inl ((k24 + 1), (b41 ++ [(⟨([] : List UInt8), x39, 0, q56.2⟩ : TF)])))
       else none
      else none
    else
     if InR .i64 ((↑k24 : Int) + 1) then
      some (Sum.inl ((k24 + 1), b41))
     else none
  else
   some (Sum.inr b41)
def w5awake_L12_H  : (Nat × (List TF)) → St := fun (s : (Nat × (List TF))) => S 48 [(5, .mapr 0), (6, .mapr 1), (8, .vec 3 s.2.length 4), (22, .vec 2 ((sortI (List.map fst (mrgK fst (setK fst ([] : List (Int × Int)) (1, 300)) (setK fst ([] : List (Int × Int)) (1, 550))))).length) 1), (23, .int .i64 (↑((sortI (List.map fst (mrgK fst (setK fst ([] : List (Int × Int)) (1, 300)) (setK fst ([] : List (Int × Int)) (1, 550))))).length) : Int)), (24, .int .i64 (↑s.1 : Int))] [(bM (.i .i64) (List.map mI (setK fst ([] : List (Int × Int)) (1, 300)))), (bM (.i .i64) (List.map mI (setK fst ([] : List (Int × Int)) (1, 550)))), (bV (fl e_i64 (sortI (List.map fst (mrgK fst (setK fst ([] : List (Int × Int)) (1, 300)) (setK fst ([] : List (Int × Int)) (1, 550)))))) 3), (bV (fl TF.enc s.2) 39)]
def w5awake_L12_X  : (List TF) → AEx := fun o => (.exit 0)
def w5awake_L12_T  : (List TF) → List (Nat × AV) := fun o => [(8, .vec 3 o.length 4)]
def w5awake_L12_B  : (List TF) → List Blk := fun o => [(bM (.i .i64) (List.map mI (setK fst ([] : List (Int × Int)) (1, 300)))), (bM (.i .i64) (List.map mI (setK fst ([] : List (Int × Int)) (1, 550)))), (bV (fl e_i64 (sortI (List.map fst (mrgK fst (setK fst ([] : List (Int × Int)) (1, 300)) (setK fst ([] : List (Int × Int)) (1, 550)))))) 3), (bV (fl TF.enc o) 39)]
def w5awake_L12_E  (q : (List TF)) : St := S 48 (w5awake_L12_T  q) (w5awake_L12_B  q)
theorem w5awake_L12_does  {s : (Nat × (List TF))} {r : (List TF)} (h : lp (w5awake_L12_step ) s = some r) : Does Tryz.prog G0 3 (.loop (bodyAt Tryz.prog 18 [1, 1, 1, 1, 1, 0, 1, 0, 0])) (w5awake_L12_H  s) (w5awake_L12_X  r) (w5awake_L12_E  r) := by
 refine Does.lp (H := w5awake_L12_H ) (X := w5awake_L12_X ) (E := w5awake_L12_E ) (fun s s2 h => ?_) (fun s r h => ?_) h
 ·obtain ⟨k24, b41⟩ := s
  unfold w5awake_L12_step at h
  try dsimp only at h
  rcases itS h with ⟨c38, h⟩ | ⟨c38, h⟩
  ·obtain ⟨x39, h40, h⟩ := bnS h
   let f127 : List CH := (oa :: bt :: (.op none (.i k24)) :: (vI x39) :: (cs 3 []))
   have g128 := k2 (dT c38) (k2 (ir h40) (ok1 (s_i64 h40)))
   rcases itS h with ⟨c41, h⟩ | ⟨c41, h⟩
   ·obtain ⟨q42, h43, h⟩ := bnS h
    let f129 : List CH := ((.op none (.v [.int .i64 q42.2])) :: (cs 2 []))
    rcases itS h with ⟨c44, h⟩ | ⟨c44, h⟩
    ·obtain ⟨q45, h46, h⟩ := bnS h
     rcases itS h with ⟨c47, h⟩ | ⟨c47, h⟩
     ·obtain ⟨h48, h⟩ := gdS h
      obtain rfl := oL h
      exact Does.of_viewM 3 400 (f127 ++ (f129 ++ [.op none (.v [jI q45.2]), oa, .br false, ow, oc])) [0, 1, 2, 3] (by kernel_rfl) (by kernel_rfl) (aO g128 (k2 ((lookK_some mI_key (k := x39) (mI_at _) h43) : lookE (List.map mI (setK fst ([] : List (Int × Int)) (1, 300))) (jI x39) = some (jI q42.2)) (k2 ((lookK_some mI_key (k := x39) (mI_at _) h46) : lookE (List.map mI (setK fst ([] : List (Int × Int)) (1, 550))) (jI x39) = some (jI q45.2)) (k2 (not_f (beq_t c47)) (ok1 h48)))))
     ·obtain ⟨h49, h⟩ := gdS h
      obtain ⟨h50, h⟩ := gdS h
      obtain rfl := oL h
      exact Does.of_viewM 3 400 (f127 ++ (f129 ++ ((.op none (.v [jI q45.2])) :: oa :: bt :: (cs 4 ((.op none (.v [jI q42.2])) :: (cs 2 ((.op none (.v [jI q45.2])) :: (cs 2 [.op none (.ap 4), .tr (.eqc 5 (fl TF.enc (b41 ++ [(⟨([] : List UInt8), x39, q42.2, q45.2⟩ : TF)]))), .tr (.eqt (.t 45) (.vec 5 ((b41 ++ [(⟨([] : List UInt8), x39, q42.2, q45.2⟩ : TF)]).length) 4)), oc, ow, oc])))))))) [0, 1, 2, 5] (by kernel_rfl) (by kernel_rfl) (aO g128 (k2 ((lookK_some mI_key (k := x39) (mI_at _) h43) : lookE (List.map mI (setK fst ([] : List (Int × Int)) (1, 300))) (jI x39) = some (jI q42.2)) (k2 ((lookK_some mI_key (k := x39) (mI_at _) h46) : lookE (List.map mI (setK fst ([] : List (Int × Int)) (1, 550))) (jI x39) = some (jI q45.2)) (k2 (not_t (beq_f c47)) (k2 ((lookK_some mI_key (k := x39) (mI_at _) h43) : lookE (List.map mI (setK fst ([] : List (Int × Int)) (1, 300))) (jI x39) = some (jI q42.2)) (k2 ((lookK_some mI_key (k := x39) (mI_at _) h46) : lookE (List.map mI (setK fst ([] : List (Int × Int)) (1, 550))) (jI x39) = some (jI q45.2)) (k2 ((nB rfl) : 0 + 4 ≤ List.length ([.str [], jI x39, jI q42.2, jI q45.2] : List AV)) (k2 ((fl_length (f := TF.enc) (z := 4) (fun _ => rfl) _) : List.length ((fl TF.enc b41) : List AV) = (b41.length * 4)) (k2 (rfl : List.all ([.str [], jI x39, jI q42.2, jI q45.2] : List AV) AV.one = true) (k2 h49 (k2 ((fl_snoc rfl) : (fl TF.enc b41) ++ [.str [], jI x39, jI q42.2, jI q45.2] = (fl TF.enc (b41 ++ [(⟨([] : List UInt8), x39, q42.2, q45.2⟩ : TF)]))) (k2 ((by simp <;> omega) : (.vec 5 (b41.length + 1) 4 : AV) = .vec 5 ((b41 ++ [(⟨([] : List UInt8), x39, q42.2, q45.2⟩ : TF)]).length) 4) (ok1 h50)))))))))))))
    ·rcases itS h with ⟨c51, h⟩ | ⟨c51, h⟩
     ·obtain ⟨h52, h⟩ := gdS h
      obtain rfl := oL h
      exact Does.of_viewM 3 400 (f127 ++ (f129 ++ [.op none (.b false), oa, .br false, ow, oc])) [0, 1, 2, 3] (by kernel_rfl) (by kernel_rfl) (aO g128 (k2 ((lookK_some mI_key (k := x39) (mI_at _) h43) : lookE (List.map mI (setK fst ([] : List (Int × Int)) (1, 300))) (jI x39) = some (jI q42.2)) (k2 ((lookK_none mI_key (k := x39) (mI_at _) (getK_no c44)) : lookE (List.map mI (setK fst ([] : List (Int × Int)) (1, 550))) (jI x39) = none) (k2 (not_f (beq_t c51)) (ok1 h52)))))
     ·obtain ⟨h53, h⟩ := gdS h
      obtain ⟨h54, h⟩ := gdS h
      obtain rfl := oL h
      exact Does.of_viewM 3 400 (f127 ++ (f129 ++ ((.op none (.b false)) :: oa :: bt :: (cs 4 ((.op none (.v [jI q42.2])) :: (cs 2 ((.op none (.b false)) :: (cs 2 [.op none (.ap 4), .tr (.eqc 5 (fl TF.enc (b41 ++ [(⟨([] : List UInt8), x39, q42.2, 0⟩ : TF)]))), .tr (.eqt (.t 45) (.vec 5 ((b41 ++ [(⟨([] : List UInt8), x39, q42.2, 0⟩ : TF)]).length) 4)), oc, ow, oc])))))))) [0, 1, 2, 5] (by kernel_rfl) (by kernel_rfl) (aO g128 (k2 ((lookK_some mI_key (k := x39) (mI_at _) h43) : lookE (List.map mI (setK fst ([] : List (Int × Int)) (1, 300))) (jI x39) = some (jI q42.2)) (k2 ((lookK_none mI_key (k := x39) (mI_at _) (getK_no c44)) : lookE (List.map mI (setK fst ([] : List (Int × Int)) (1, 550))) (jI x39) = none) (k2 (not_t (beq_f c51)) (k2 ((lookK_some mI_key (k := x39) (mI_at _) h43) : lookE (List.map mI (setK fst ([] : List (Int × Int)) (1, 300))) (jI x39) = some (jI q42.2)) (k2 ((lookK_none mI_key (k := x39) (mI_at _) (getK_no c44)) : lookE (List.map mI (setK fst ([] : List (Int × Int)) (1, 550))) (jI x39) = none) (k2 ((nB rfl) : 0 + 4 ≤ List.length ([.str [], jI x39, jI q42.2, jI 0] : List AV)) (k2 ((fl_length (f := TF.enc) (z := 4) (fun _ => rfl) _) : List.length ((fl TF.enc b41) : List AV) = (b41.length * 4)) (k2 (rfl : List.all ([.str [], jI x39, jI q42.2, jI 0] : List AV) AV.one = true) (k2 h53 (k2 ((fl_snoc rfl) : (fl TF.enc b41) ++ [.str [], jI x39, jI q42.2, jI 0] = (fl TF.enc (b41 ++ [(⟨([] : List UInt8), x39, q42.2, 0⟩ : TF)]))) (k2 ((by simp <;> omega) : (.vec 5 (b41.length + 1) 4 : AV) = .vec 5 ((b41 ++ [(⟨([] : List UInt8), x39, q42.2, 0⟩ : TF)]).length) 4) (ok1 h54)))))))))))))
   ·let f130 : List CH := ((.op none (.b false)) :: (cs 2 []))
    rcases itS h with ⟨c55, h⟩ | ⟨c55, h⟩
    ·obtain ⟨q56, h57, h⟩ := bnS h
     rcases itS h with ⟨c58, h⟩ | ⟨c58, h⟩
     ·obtain ⟨h59, h⟩ := gdS h
      obtain rfl := oL h
      exact Does.of_viewM 3 400 (f127 ++ (f130 ++ [.op none (.v [jI q56.2]), oa, .br false, ow, oc])) [0, 1, 2, 3] (by kernel_rfl) (by kernel_rfl) (aO g128 (k2 ((lookK_none mI_key (k := x39) (mI_at _) (getK_no c41)) : lookE (List.map mI (setK fst ([] : List (Int × Int)) (1, 300))) (jI x39) = none) (k2 ((lookK_some mI_key (k := x39) (mI_at _) h57) : lookE (List.map mI (setK fst ([] : List (Int × Int)) (1, 550))) (jI x39) = some (jI q56.2)) (k2 (not_f (beq_t c58)) (ok1 h59)))))
     ·obtain ⟨h60, h⟩ := gdS h
      obtain ⟨h61, h⟩ := gdS h
      obtain rfl := oL h
      exact Does.of_viewM 3 400 (f127 ++ (f130 ++ ((.op none (.v [jI q56.2])) :: oa :: bt :: (cs 4 ((.op none (.b false)) :: (cs 2 ((.op none (.v [jI q56.2])) :: (cs 2 [.op none (.ap 4), .tr (.eqc 5 (fl TF.enc (b41 ++ [(⟨([] : List UInt8), x39, 0, q56.2⟩ : TF)]))), .tr (.eqt (.t 45) (.vec 5 ((b41 ++ [(⟨([] : List UInt8), x39, 0, q56.2⟩ : TF)]).length) 4)), oc, ow, oc])))))))) [0, 1, 2, 5] (by kernel_rfl) (by kernel_rfl) (aO g128 (k2 ((lookK_none mI_key (k := x39) (mI_at _) (getK_no c41)) : lookE (List.map mI (setK fst ([] : List (Int × Int)) (1, 300))) (jI x39) = none) (k2 ((lookK_some mI_key (k := x39) (mI_at _) h57) : lookE (List.map mI (setK fst ([] : List (Int × Int)) (1, 550))) (jI x39) = some (jI q56.2)) (k2 (not_t (beq_f c58)) (k2 ((lookK_none mI_key (k := x39) (mI_at _) (getK_no c41)) : lookE (List.map mI (setK fst ([] : List (Int × Int)) (1, 300))) (jI x39) = none) (k2 ((lookK_some mI_key (k := x39) (mI_at _) h57) : lookE (List.map mI (setK fst ([] : List (Int × Int)) (1, 550))) (jI x39) = some (jI q56.2)) (k2 ((nB rfl) : 0 + 4 ≤ List.length ([.str [], jI x39, jI 0, jI q56.2] : List AV)) (k2 ((fl_length (f := TF.enc) (z := 4) (fun _ => rfl) _) : List.length ((fl TF.enc b41) : List AV) = (b41.length * 4)) (k2 (rfl : List.all ([.str [], jI x39, jI 0, jI q56.2] : List AV) AV.one = true) (k2 h60 (k2 ((fl_snoc rfl) : (fl TF.enc b41) ++ [.str [], jI x39, jI 0, jI q56.2] = (fl TF.enc (b41 ++ [(⟨([] : List UInt8), x39, 0, q56.2⟩ : TF)]))) (k2 ((by simp <;> omega) : (.vec 5 (b41.length + 1) 4 : AV) = .vec 5 ((b41 ++ [(⟨([] : List UInt8), x39, 0, q56.2⟩ : TF)]).length) 4) (ok1 h61)))))))))))))
    ·obtain ⟨h62, h⟩ := gdS h
     obtain rfl := oL h
     exact Does.of_viewM 3 400 (f127 ++ (f130 ++ [.op none (.b false), oc, .br false, ow, oc])) [0, 1, 2, 3] (by kernel_rfl) (by kernel_rfl) (aO g128 (k2 ((lookK_none mI_key (k := x39) (mI_at _) (getK_no c41)) : lookE (List.map mI (setK fst ([] : List (Int × Int)) (1, 300))) (jI x39) = none) (k2 ((lookK_none mI_key (k := x39) (mI_at _) (getK_no c55)) : lookE (List.map mI (setK fst ([] : List (Int × Int)) (1, 550))) (jI x39) = none) (k2 (rfl : false = false) (ok1 h62)))))
  ·simp at h
 ·obtain ⟨k24, b41⟩ := s
  unfold w5awake_L12_step at h
  try dsimp only at h
  rcases itS h with ⟨c38, h⟩ | ⟨c38, h⟩
  ·obtain ⟨x39, h40, h⟩ := bnS h
   rcases itS h with ⟨c41, h⟩ | ⟨c41, h⟩
   ·obtain ⟨q42, h43, h⟩ := bnS h
    rcases itS h with ⟨c44, h⟩ | ⟨c44, h⟩
    ·obtain ⟨q45, h46, h⟩ := bnS h
     rcases itS h with ⟨c47, h⟩ | ⟨c47, h⟩
     ·obtain ⟨h48, h⟩ := gdS h
      simp at h
     ·obtain ⟨h49, h⟩ := gdS h
      obtain ⟨h50, h⟩ := gdS h
      simp at h
    ·rcases itS h with ⟨c51, h⟩ | ⟨c51, h⟩
     ·obtain ⟨h52, h⟩ := gdS h
      simp at h
     ·obtain ⟨h53, h⟩ := gdS h
      obtain ⟨h54, h⟩ := gdS h
      simp at h
   ·rcases itS h with ⟨c55, h⟩ | ⟨c55, h⟩
    ·obtain ⟨q56, h57, h⟩ := bnS h
     rcases itS h with ⟨c58, h⟩ | ⟨c58, h⟩
     ·obtain ⟨h59, h⟩ := gdS h
      simp at h
     ·obtain ⟨h60, h⟩ := gdS h
      obtain ⟨h61, h⟩ := gdS h
      simp at h
    ·obtain ⟨h62, h⟩ := gdS h
     simp at h
  ·obtain rfl := oR h
   exact ⟨Does.of_viewM 3 400 [oa, .br false] [0, 1, 2, 3] (by kernel_rfl) (by kernel_rfl) (ok1 (dF c38)), by intro q; cases q⟩
def w5awake  : Option Bool :=
 (aULeaves ([(⟨([107] : List UInt8), ([118] : List UInt8), ([115] : List UInt8), 1, 2, [], 3⟩ : TC)] : List TC)).bind fun r1 =>
 if (↑r1.length : Int) = (1 : Int) then
  (r1[0]?).bind fun x4 =>
  (f08Hash ([(2 : UInt8), (107 : UInt8), (2 : UInt8), (118 : UInt8), (2 : UInt8), (115 : UInt8), (2 : UInt8), (4 : UInt8), (6 : UInt8), (0 : UInt8)] : List UInt8)).bind fun r6 =>
  if x4 = r6 then
   (aULocate ([(⟨([97] : List UInt8), ([] : List UInt8), ([] : List UInt8), 0, 90000, [], 100⟩ : TC), (⟨([98] : List UInt8), ([] : List UInt8), ([] : List UInt8), 0, 90000, [], 200⟩ : TC)] : List TC) ([(⟨([98] : List UInt8), ([] : List UInt8), ([] : List UInt8), 0, 90000, [], 250⟩ : TC), (⟨([99] : List UInt8), ([] : List UInt8), ([] : List UInt8), 0, 90000, [], 300⟩ : TC)] : List TC)).bind fun r9 =>
   if SkI (List.map fst (mrgK fst (setK fst ([] : List (Int × Int)) (1, 300)) (setK fst ([] : List (Int × Int)) (1, 550)))) then
    (lp (w5awake_L12_step) ((0 : Nat), ([] : (List TF)))).bind fun o12 =>
    (aULocate ([(⟨([98] : List UInt8), ([] : List UInt8), ([] : List UInt8), 0, 90000, [], 250⟩ : TC), (⟨([99] : List UInt8), ([] : List UInt8), ([] : List UInt8), 0, 90000, [], 300⟩ : TC)] : List TC) ([(⟨([98] : List UInt8), ([] : List UInt8), ([] : List UInt8), 0, 90000, [], 250⟩ : TC), (⟨([99] : List UInt8), ([] : List UInt8), ([] : List UInt8), 0, 90000, [], 300⟩ : TC)] : List TC)).bind fun r63 =>
    (aULocate ([(⟨([98] : List UInt8), ([] : List UInt8), ([] : List UInt8), 0, 90000, [], 250⟩ : TC), (⟨([99] : List UInt8), ([] : List UInt8), ([] : List UInt8), 0, 90000, [], 300⟩ : TC)] : List TC) []).bind fun r65 =>
    (aULocate ([(⟨([98] : List UInt8), ([] : List UInt8), ([] : List UInt8), 0, 90000, [], 250⟩ : TC), (⟨([99] : List UInt8), ([] : List UInt8), ([] : List UInt8), 0, 90000, [], 300⟩ : TC)] : List TC) []).bind fun r67 =>
    if (↑r63.length : Int) = (0 : Int) then
     if (↑r65.length : Int) = (2 : Int) then
      (r65[0]?).bind fun x71 =>
      if x71.Key = [98] then
       if x71.Have = (250 : Int) then
        if x71.Want = (0 : Int) then
         (f50SameFindings r9 ([(⟨([97] : List UInt8), 1, 100, 0⟩ : TF), (⟨([98] : List UInt8), 1, 200, 250⟩ : TF), (⟨([99] : List UInt8), 1, 0, 300⟩ : TF)] : List TF)).bind fun r76 =>
         if r76 = true then
          (f50SameFindings o12 ([(⟨([] : List UInt8), 1, 300, 550⟩ : TF)] : List TF)).bind fun r79 =>
          if r79 = true then
           (aULost ([(⟨([97] : List UInt8), ([] : List UInt8), ([] : List UInt8), 0, 90000, [], 100⟩ : TC), (⟨([98] : List UInt8), ([] : List UInt8), ([] : List UInt8), 0, 90000, [], 200⟩ : TC)] : List TC) ([(⟨([98] : List UInt8), ([] : List UInt8), ([] : List UInt8), 0, 90000, [], 250⟩ : TC), (⟨([99] : List UInt8), ([] : List UInt8), ([] : List UInt8), 0, 90000, [], 300⟩ : TC)] : List TC)).bind fun r82 =>
           some (r82 == (300 : Int))
          else
           none
         else
          none
        else
         none
       else
        none
      else
       none
     else
      none
    else
     none
   else none
  else
   none
 else
  none
theorem w5awake_ret  (r : Bool) (h : w5awake  = some r) : Ret Tryz.prog G0 11 [] (.bool r) [] := by
 unfold w5awake at h
 obtain ⟨r1, h2, h⟩ := bnS h
 rcases itS h with ⟨c3, h⟩ | ⟨c3, h⟩
 ·obtain ⟨x4, h5, h⟩ := bnS h
  obtain ⟨r6, h7, h⟩ := bnS h
  rcases itS h with ⟨c8, h⟩ | ⟨c8, h⟩
  ·obtain ⟨r9, h10, h⟩ := bnS h
   obtain ⟨h11, h⟩ := gdS h
   obtain ⟨o12, hl12, h⟩ := bnS h
   obtain ⟨r63, h64, h⟩ := bnS h
   obtain ⟨r65, h66, h⟩ := bnS h
   obtain ⟨r67, h68, h⟩ := bnS h
   rcases itS h with ⟨c69, h⟩ | ⟨c69, h⟩
   ·rcases itS h with ⟨c70, h⟩ | ⟨c70, h⟩
    ·obtain ⟨x71, h72, h⟩ := bnS h
     rcases itS h with ⟨c73, h⟩ | ⟨c73, h⟩
     ·rcases itS h with ⟨c74, h⟩ | ⟨c74, h⟩
      ·rcases itS h with ⟨c75, h⟩ | ⟨c75, h⟩
       ·obtain ⟨r76, h77, h⟩ := bnS h
        rcases itS h with ⟨c78, h⟩ | ⟨c78, h⟩
        ·obtain ⟨r79, h80, h⟩ := bnS h
         rcases itS h with ⟨c81, h⟩ | ⟨c81, h⟩
         ·obtain ⟨r82, h83, h⟩ := bnS h
          obtain rfl := oI h
          exact Ret.of_view 400 (cs 23 ((.ret none [.lst [.str [107], .str [118], .str [115], jI 1, jI 2, .nils, jI 3] 1] (.vec 0 r1.length 1) [(bV (fl e_u64 r1) 41)]) :: (cs 3 (oa :: oc :: oF :: (.op (some false) (.i 0)) :: (.op (some false) (.v [.int .u64 x4])) :: oF :: (.ret (some false) [.lst [.int .u8 2, .int .u8 107, .int .u8 2, .int .u8 118, .int .u8 2, .int .u8 115, .int .u8 2, .int .u8 4, .int .u8 6, .int .u8 0] 10] (.int .u64 r6) []) :: oG :: (.op none (.b false)) :: bf :: (cs 2 ((.ret none [.lst [.str [97], .str [], .str [], jI 0, jI 90000, .nils, jI 100, .str [98], .str [], .str [], jI 0, jI 90000, .nils, jI 200] 2, .lst [.str [98], .str [], .str [], jI 0, jI 90000, .nils, jI 250, .str [99], .str [], .str [], jI 0, jI 90000, .nils, jI 300] 2] (.vec 0 r9.length 4) [(bV (fl TF.enc r9) 39)]) :: (cs 17 (bt :: (cs 21 (bf :: (cs 17 (bt :: (cs 3 ((.op none (.ap 2)) :: (cs 4 (bt :: (cs 21 (bf :: (cs 17 (bt :: (cs 3 ((.op none (.ap 3)) :: (cs 4 (bf :: (cs 14 (bf :: (cs 5 (bf :: (cs 2 (bf :: (cs 2 (bf :: (cs 18 (bt :: (cs 11 (bt :: (cs 38 (bf :: (cs 22 (bf :: (cs 7 (bf :: (cs 6 (bf :: (cs 6 (bt :: (cs 21 (bf :: (cs 17 (bt :: (cs 3 ((.op none (.ap 2)) :: (cs 2 ((.op none (.ap 2)) :: (cs 19 (bt :: (cs 21 (bf :: (cs 17 (bf :: (cs 17 (bf :: (cs 15 (bt :: (cs 12 ((.tr (.mp 21 (List.map mI (setK fst ([] : List (Int × Int)) (1, 300))))) :: (cs 3 (bf :: (cs 14 (bt :: (cs 21 (bf :: (cs 17 (bt :: (cs 3 ((.op none (.ap 2)) :: (cs 4 (bt :: (cs 21 (bf :: (cs 17 (bt :: (cs 3 ((.op none (.ap 3)) :: (cs 4 (bf :: (cs 14 (bf :: (cs 5 (bf :: (cs 2 (bf :: (cs 2 (bf :: (cs 18 (bt :: (cs 11 (bt :: (cs 38 (bf :: (cs 22 (bf :: (cs 7 (bf :: (cs 6 (bf :: (cs 6 (bt :: (cs 21 (bf :: (cs 17 (bt :: (cs 3 ((.op none (.ap 2)) :: (cs 2 ((.op none (.ap 2)) :: (cs 19 (bt :: (cs 21 (bf :: (cs 17 (bf :: (cs 17 (bf :: (cs 15 (bt :: (cs 12 ((.tr (.mp 33 (List.map mI (setK fst ([] : List (Int × Int)) (1, 550))))) :: (cs 3 (bf :: (cs 9 (bf :: (cs 9 ((.spec (fspec 2 [34, 33] [.mapr 0, .mapr 1] [(bM (.i .i64) (List.map mI (setK fst ([] : List (Int × Int)) (1, 300)))), (bM (.i .i64) (List.map mI (setK fst ([] : List (Int × Int)) (1, 550))))] (.tup []) [(bM (.i .i64) (List.map mI (mrgK fst (setK fst ([] : List (Int × Int)) (1, 300)) (setK fst ([] : List (Int × Int)) (1, 550))))), (bM (.i .i64) (List.map mI (setK fst ([] : List (Int × Int)) (1, 550))))])) :: (cs 8 ((.spec (fspec 2 [37, 34] [.fn (.func 69) [] [.ptr 0 0]] [(bF [.mapr 1] 112), (bM (.i .i64) (List.map mI (mrgK fst (setK fst ([] : List (Int × Int)) (1, 300)) (setK fst ([] : List (Int × Int)) (1, 550)))))] (.vec 2 ((sortI (List.map fst (mrgK fst (setK fst ([] : List (Int × Int)) (1, 300)) (setK fst ([] : List (Int × Int)) (1, 550))))).length) 1) [(bF [.mapr 1] 112), (bM (.i .i64) (List.map mI (mrgK fst (setK fst ([] : List (Int × Int)) (1, 300)) (setK fst ([] : List (Int × Int)) (1, 550))))), (bV (fl e_i64 (sortI (List.map fst (mrgK fst (setK fst ([] : List (Int × Int)) (1, 300)) (setK fst ([] : List (Int × Int)) (1, 550)))))) 3)])) :: (cs 2 ((.tr (.vec (.t 8) 4 39)) :: (.fcut 3 (.exit 0) [(8, .vec 3 o12.length 4)] (w5awake_L12_B o12) [21, 33, 40, 41] [(5, .any), (6, .any), (8, .vec 3 (([] : (List TF)).length) 4), (22, .vec 2 ((sortI (List.map fst (mrgK fst (setK fst ([] : List (Int × Int)) (1, 300)) (setK fst ([] : List (Int × Int)) (1, 550))))).length) 1), (23, .any), (24, jI (↑(0 : Nat) : Int))] [bS, bS, bS, (bV (fl TF.enc ([] : (List TF))) 39)]) :: (cs 25 (bt :: (cs 19 (bf :: (cs 12 (bt :: (cs 3 ((.op none (.ap 2)) :: (cs 4 (bt :: (cs 19 (bf :: (cs 12 (bt :: (cs 3 ((.op none (.ap 3)) :: (cs 4 (bf :: (cs 4 ((.ret none [.lst [.str [98], .str [], .str [], jI 0, jI 90000, .nils, jI 250, .str [99], .str [], .str [], jI 0, jI 90000, .nils, jI 300] 2, .lst [.str [98], .str [], .str [], jI 0, jI 90000, .nils, jI 250, .str [99], .str [], .str [], jI 0, jI 90000, .nils, jI 300] 2] (.vec 0 r63.length 4) [(bV (fl TF.enc r63) 39)]) :: (cs 15 (bt :: (cs 19 (bf :: (cs 12 (bf :: (cs 3 (bt :: (cs 19 (bf :: (cs 12 (bf :: (cs 3 (bf :: (cs 4 ((.ret none [.lst [.str [98], .str [], .str [], jI 0, jI 90000, .nils, jI 250, .str [99], .str [], .str [], jI 0, jI 90000, .nils, jI 300] 2, .lst [] 0] (.vec 0 r65.length 4) [(bV (fl TF.enc r65) 39)]) :: (cs 26 (bt :: (cs 25 ((.spec (fspec 0 [] [.nils, jI 0] [] (.nils) [])) :: (cs 3 (bf :: (cs 17 (bf :: (cs 11 (bf :: (cs 3 (bf :: (cs 19 (bf :: (cs 11 (bf :: (cs 3 (bf :: (cs 22 ((.op none (.ap 0)) :: (cs 22 (bf :: (cs 11 (bf :: (cs 3 (bf :: (cs 27 (bf :: (cs 14 (bf :: (cs 11 (bf :: (cs 3 (bf :: (cs 5 (bf :: (cs 17 (bf :: (cs 10 (bf :: (cs 11 (bf :: (cs 5 (bf :: (cs 2 (bf :: (cs 2 (bf :: (cs 17 (bt :: (cs 10 (bf :: (cs 5 (bf :: (cs 19 (bf :: (cs 11 (bf :: (cs 3 (bf :: (cs 14 (bf :: (cs 11 (bf :: (cs 3 (bf :: (cs 26 ((.op none (.ap 0)) :: (cs 13 (bf :: (cs 19 (bt :: (cs 13 (bf :: (cs 5 (bf :: (cs 2 (bf :: (cs 2 (bf :: (cs 18 (bt :: (cs 11 (bf :: (cs 6 (bt :: (cs 6 (bf :: (cs 26 (bt :: (cs 13 (bf :: (cs 5 (bf :: (cs 2 (bf :: (cs 2 (bf :: (cs 18 (bt :: (cs 11 (bf :: (cs 6 (bt :: (cs 6 (bf :: (cs 11 (bf :: (cs 5 (bf :: (cs 7 (bf :: (cs 27 ((.op none (.ap 0)) :: oc :: (.op none (.ap 0)) :: (cs 33 (bf :: (cs 4 (bf :: (cs 4 (bf :: (cs 21 (bf :: (cs 4 (bf :: (cs 8 (bf :: (cs 15 (bf :: (cs 11 (bf :: (cs 3 (bf :: (cs 12 (bf :: (cs 10 (bf :: (cs 7 (bf :: (cs 4 (bf :: (cs 10 (bf :: (cs 8 (bf :: (cs 14 (bf :: (cs 11 (bf :: (cs 3 (bf :: (cs 15 (bf :: (cs 13 ((.op none (.ap 0)) :: (cs 22 (bf :: (cs 11 (bf :: (cs 3 (bf :: (cs 14 (bf :: (cs 5 ((.ret none [.lst [.str [98], .str [], .str [], jI 0, jI 90000, .nils, jI 250, .str [99], .str [], .str [], jI 0, jI 90000, .nils, jI 300] 2, .lst [] 0] (.vec 0 r67.length 4) [(bV (fl TF.enc r67) 39)]) :: (cs 9 (oa :: oc :: oF :: oc :: oa :: (cs 2 (oF :: (.op none (.i 0)) :: oc :: (.op none (.v [.str x71.Key])) :: oa :: (cs 2 (oF :: (.op none (.i 0)) :: oc :: (.op none (.v [jI x71.Have])) :: oa :: (cs 2 (oF :: (.op none (.i 0)) :: oc :: (.op none (.v [jI x71.Want])) :: oa :: (cs 2 (oF :: (cs 2 (bf :: (cs 5 ((.ret none [.lst (fl TF.enc r9) r9.length, .lst [.str [97], jI 1, jI 100, jI 0, .str [98], jI 1, jI 200, jI 250, .str [99], jI 1, jI 0, jI 300] 3] (.bool r76) []) :: oc :: tc :: (cs 2 ((.ret none [.lst (fl TF.enc o12) o12.length, .lst [.str [], jI 1, jI 300, jI 550] 1] (.bool r79) []) :: (cs 2 (tc :: oc :: (.ret none [.lst [.str [97], .str [], .str [], jI 0, jI 90000, .nils, jI 100, .str [98], .str [], .str [], jI 0, jI 90000, .nils, jI 200] 2, .lst [.str [98], .str [], .str [], jI 0, jI 90000, .nils, jI 250, .str [99], .str [], .str [], jI 0, jI 90000, .nils, jI 300] 2] (jI r82) []) :: oa :: (cs 2 []))))))))))))))))))))))))))))))))))))))))))))))))))))))))))))))))))))))))))))))))))))))))))))))))))))))))))))))))))))))))))))))))))))))))))))))))))))))))))))))))))))))))))))))))))))))))))))))))))))))))))))))))))))))))))))))))))))))))))))))))))))))))))))))))))))))))))))))))))))))))))))))))))))))))))))))))))))))))))))))))))))))))))))))))))))))))))))))))))))) [] (by kernel_rfl) (by kernel_rfl) (k2 (⟨rfl, rfl, nB rfl, nB rfl⟩ : sub [.str [107], .str [118], .str [115], jI 1, jI 2, .nils, jI 3] 0 7 = [.str [107], .str [118], .str [115], jI 1, jI 2, .nils, jI 3] ∧ 1 = 1 ∧ 0 + 7 ≤ List.length ([.str [107], .str [118], .str [115], jI 1, jI 2, .nils, jI 3] : List AV) ∧ 1 ≤ 1) (k2 (⟨(fl_dat (f := e_u64) (fun _ => rfl)), trivial⟩ : datBlks [(bV (fl e_u64 r1) 41)]) (k2 ((Ret.nla 4 (aULeaves_ret ([(⟨([107] : List UInt8), ([118] : List UInt8), ([115] : List UInt8), 1, 2, [], 3⟩ : TC)] : List TC) r1 h2)) : Ret Tryz.prog G0 13 [.lst [.str [107], .str [118], .str [115], jI 1, jI 2, .nils, jI 3] 1] (.vec 0 r1.length 1) [(bV (fl e_u64 r1) 41)]) (k2 (⟨rfl, trivial⟩ : (some (Ob.blk (bV (fl e_u64 r1) 41)) = some (Ob.blk (bV (fl e_u64 r1) 41))) ∧ True) (k2 (not_f (beq_t c3)) (k2 (not_f (beq_t c3)) (k2 (ir h5) (k2 (not_f (beq_t c3)) (k2 (s_u64 h5) (k2 (not_f (beq_t c3)) (k2 (not_f (beq_t c3)) (k2 (⟨rfl, rfl, nB rfl, nB rfl⟩ : sub [.int .u8 2, .int .u8 107, .int .u8 2, .int .u8 118, .int .u8 2, .int .u8 115, .int .u8 2, .int .u8 4, .int .u8 6, .int .u8 0] 0 10 = [.int .u8 2, .int .u8 107, .int .u8 2, .int .u8 118, .int .u8 2, .int .u8 115, .int .u8 2, .int .u8 4, .int .u8 6, .int .u8 0] ∧ 10 = 10 ∧ 0 + 10 ≤ List.length ([.int .u8 2, .int .u8 107, .int .u8 2, .int .u8 118, .int .u8 2, .int .u8 115, .int .u8 2, .int .u8 4, .int .u8 6, .int .u8 0] : List AV) ∧ 10 ≤ 10) (k2 (trivial : datBlks []) (k2 (f08Hash_ret ([(2 : UInt8), (107 : UInt8), (2 : UInt8), (118 : UInt8), (2 : UInt8), (115 : UInt8), (2 : UInt8), (4 : UInt8), (6 : UInt8), (0 : UInt8)] : List UInt8) r6 h7) (k2 (⟨rfl, trivial⟩ : (some (Ob.blk (bT [.int .u8 2, .int .u8 107, .int .u8 2, .int .u8 118, .int .u8 2, .int .u8 115, .int .u8 2, .int .u8 4, .int .u8 6, .int .u8 0] 5)) = some (Ob.blk (bT [.int .u8 2, .int .u8 107, .int .u8 2, .int .u8 118, .int .u8 2, .int .u8 115, .int .u8 2, .int .u8 4, .int .u8 6, .int .u8 0] 5))) ∧ True) (k2 (not_f (beq_t c3)) (k2 (not_f (beq_t c3)) (k2 (not_f (beq_t c8)) (k2 (⟨rfl, rfl, nB rfl, nB rfl⟩ : sub [.str [97], .str [], .str [], jI 0, jI 90000, .nils, jI 100, .str [98], .str [], .str [], jI 0, jI 90000, .nils, jI 200] 0 14 = [.str [97], .str [], .str [], jI 0, jI 90000, .nils, jI 100, .str [98], .str [], .str [], jI 0, jI 90000, .nils, jI 200] ∧ 2 = 2 ∧ 0 + 14 ≤ List.length ([.str [97], .str [], .str [], jI 0, jI 90000, .nils, jI 100, .str [98], .str [], .str [], jI 0, jI 90000, .nils, jI 200] : List AV) ∧ 2 ≤ 2) (k2 (⟨rfl, rfl, nB rfl, nB rfl⟩ : sub [.str [98], .str [], .str [], jI 0, jI 90000, .nils, jI 250, .str [99], .str [], .str [], jI 0, jI 90000, .nils, jI 300] 0 14 = [.str [98], .str [], .str [], jI 0, jI 90000, .nils, jI 250, .str [99], .str [], .str [], jI 0, jI 90000, .nils, jI 300] ∧ 2 = 2 ∧ 0 + 14 ≤ List.length ([.str [98], .str [], .str [], jI 0, jI 90000, .nils, jI 250, .str [99], .str [], .str [], jI 0, jI 90000, .nils, jI 300] : List AV) ∧ 2 ≤ 2) (k2 (⟨(fl_dat (f := TF.enc) (fun _ => rfl)), trivial⟩ : datBlks [(bV (fl TF.enc r9) 39)]) (k2 ((Ret.nla 4 (aULocate_ret ([(⟨([97] : List UInt8), ([] : List UInt8), ([] : List UInt8), 0, 90000, [], 100⟩ : TC), (⟨([98] : List UInt8), ([] : List UInt8), ([] : List UInt8), 0, 90000, [], 200⟩ : TC)] : List TC) ([(⟨([98] : List UInt8), ([] : List UInt8), ([] : List UInt8), 0, 90000, [], 250⟩ : TC), (⟨([99] : List UInt8), ([] : List UInt8), ([] : List UInt8), 0, 90000, [], 300⟩ : TC)] : List TC) r9 h10)) : Ret Tryz.prog G0 16 [.lst [.str [97], .str [], .str [], jI 0, jI 90000, .nils, jI 100, .str [98], .str [], .str [], jI 0, jI 90000, .nils, jI 200] 2, .lst [.str [98], .str [], .str [], jI 0, jI 90000, .nils, jI 250, .str [99], .str [], .str [], jI 0, jI 90000, .nils, jI 300] 2] (.vec 0 r9.length 4) [(bV (fl TF.enc r9) 39)]) (k2 (rfl : true = true) (k2 (rfl : false = false) (k2 (rfl : true = true) (k2 ((nB rfl) : 0 + 1 ≤ List.length ([jI 0] : List AV)) (k2 ((by decide) : 0 < 1) (k2 ((by decide) : 1 ≤ 4294967296) (k2 (rfl : true = true) (k2 (rfl : false = false) (k2 (rfl : true = true) (k2 ((nB rfl) : 0 + 1 ≤ List.length ([jI 1] : List AV)) (k2 ((by decide) : 0 < 1) (k2 (rfl : List.length ([jI 0] : List AV) = 1) (k2 ((by simp [AV.one]) : List.all ([jI 1] : List AV) AV.one = true) (k2 ((by decide) : 1 + 1 ≤ 4294967296) (k2 (rfl : false = false) (k2 (rfl : false = false) (k2 (rfl : false = false) (k2 (rfl : false = false) (k2 (rfl : false = false) (k2 (rfl : true = true) (k2 (rfl : true = true) (k2 (rfl : false = false) (k2 (rfl : false = false) (k2 (⟨rfl, trivial⟩ : (some (Ob.blk (bT [.str [97], .str [], .str [], jI 0, jI 90000, .nils, jI 100, .str [98], .str [], .str [], jI 0, jI 90000, .nils, jI 200] 35)) = some (Ob.blk (bT [.str [97], .str [], .str [], jI 0, jI 90000, .nils, jI 100, .str [98], .str [], .str [], jI 0, jI 90000, .nils, jI 200] 35))) ∧ True) (k2 (rfl : false = false) (k2 (rfl : false = false) (k2 (rfl : true = true) (k2 (rfl : false = false) (k2 (rfl : true = true) (k2 ((nB rfl) : 0 + 1 ≤ List.length ([jI 1] : List AV)) (k2 ((by decide) : 0 < 1) (k2 ((by decide) : 1 ≤ 4294967296) (k2 ((nB rfl) : 0 + 1 ≤ List.length ([jI 0] : List AV)) (k2 ((by decide) : 0 < 1) (k2 ((by decide) : 1 ≤ 4294967296) (k2 (⟨rfl, trivial⟩ : (some (Ob.blk (bX [jI 0] 3)) = some (Ob.blk (bX [jI 0] 3))) ∧ True) (k2 (rfl : true = true) (k2 (rfl : false = false) (k2 (rfl : false = false) (k2 (⟨rfl, trivial⟩ : (some (Ob.blk (bX [jI 100] 3)) = some (Ob.blk (bX [jI 100] 3))) ∧ True) (k2 (rfl : false = false) (k2 (rfl : true = true) (k2 ((List.Perm.of_eq (set_map (κ := fst) mI_key ([] : List (Int × Int)) (1, 300))) : List.Perm (setE (List.map mI ([] : List (Int × Int))) (jI 1) (jI 300)) (List.map mI (setK fst ([] : List (Int × Int)) (1, 300)))) (k2 (rfl : false = false) (k2 (rfl : true = true) (k2 (rfl : false = false) (k2 (rfl : true = true) (k2 ((nB rfl) : 0 + 1 ≤ List.length ([jI 0] : List AV)) (k2 ((by decide) : 0 < 1) (k2 ((by decide) : 1 ≤ 4294967296) (k2 (rfl : true = true) (k2 (rfl : false = false) (k2 (rfl : true = true) (k2 ((nB rfl) : 0 + 1 ≤ List.length ([jI 1] : List AV)) (k2 ((by decide) : 0 < 1) (k2 (rfl : List.length ([jI 0] : List AV) = 1) (k2 ((by simp [AV.one]) : List.all ([jI 1] : List AV) AV.one = true) (k2 ((by decide) : 1 + 1 ≤ 4294967296) (k2 (rfl : false = false) (k2 (rfl : false = false) (k2 (rfl : false = false) (k2 (rfl : false = false) (k2 (rfl : false = false) (k2 (rfl : true = true) (k2 (rfl : true = true) (k2 (rfl : false = false) (k2 (rfl : false = false) (k2 (⟨rfl, trivial⟩ : (some (Ob.blk (bT [.str [98], .str [], .str [], jI 0, jI 90000, .nils, jI 250, .str [99], .str [], .str [], jI 0, jI 90000, .nils, jI 300] 35)) = some (Ob.blk (bT [.str [98], .str [], .str [], jI 0, jI 90000, .nils, jI 250, .str [99], .str [], .str [], jI 0, jI 90000, .nils, jI 300] 35))) ∧ True) (k2 (rfl : false = false) (k2 (rfl : false = false) (k2 (rfl : true = true) (k2 (rfl : false = false) (k2 (rfl : true = true) (k2 ((nB rfl) : 0 + 1 ≤ List.length ([jI 1] : List AV)) (k2 ((by decide) : 0 < 1) (k2 ((by decide) : 1 ≤ 4294967296) (k2 ((nB rfl) : 0 + 1 ≤ List.length ([jI 0] : List AV)) (k2 ((by decide) : 0 < 1) (k2 ((by decide) : 1 ≤ 4294967296) (k2 (⟨rfl, trivial⟩ : (some (Ob.blk (bX [jI 0] 3)) = some (Ob.blk (bX [jI 0] 3))) ∧ True) (k2 (rfl : true = true) (k2 (rfl : false = false) (k2 (rfl : false = false) (k2 (⟨rfl, trivial⟩ : (some (Ob.blk (bX [jI 250] 3)) = some (Ob.blk (bX [jI 250] 3))) ∧ True) (k2 (rfl : false = false) (k2 (rfl : true = true) (k2 ((List.Perm.of_eq (set_map (κ := fst) mI_key ([] : List (Int × Int)) (1, 550))) : List.Perm (setE (List.map mI ([] : List (Int × Int))) (jI 1) (jI 550)) (List.map mI (setK fst ([] : List (Int × Int)) (1, 550)))) (k2 (rfl : false = false) (k2 (rfl : false = false) (k2 ((fspec_ok _ (mcpI_calls ((setK fst ([] : List (Int × Int)) (1, 300))) ((setK fst ([] : List (Int × Int)) (1, 550))))) : SpecOk Tryz.prog G0 44 (fspec 2 [34, 33] [.mapr 0, .mapr 1] [(bM (.i .i64) (List.map mI (setK fst ([] : List (Int × Int)) (1, 300)))), (bM (.i .i64) (List.map mI (setK fst ([] : List (Int × Int)) (1, 550))))] (.tup []) [(bM (.i .i64) (List.map mI (mrgK fst (setK fst ([] : List (Int × Int)) (1, 300)) (setK fst ([] : List (Int × Int)) (1, 550))))), (bM (.i .i64) (List.map mI (setK fst ([] : List (Int × Int)) (1, 550))))])) (k2 (⟨rfl, rfl, rfl, trivial⟩ : (([.mapr 34, .mapr 33] : List AV) = [.mapr 34, .mapr 33]) ∧ (some (Ob.map (.i .i64) (List.map mI (setK fst ([] : List (Int × Int)) (1, 300)))) = some (Ob.map (.i .i64) (List.map mI (setK fst ([] : List (Int × Int)) (1, 300))))) ∧ (some (Ob.map (.i .i64) (List.map mI (setK fst ([] : List (Int × Int)) (1, 550)))) = some (Ob.map (.i .i64) (List.map mI (setK fst ([] : List (Int × Int)) (1, 550))))) ∧ True) (k2 ((fspec_ok _ (sortedI_calls (mrgK fst (setK fst ([] : List (Int × Int)) (1, 300)) (setK fst ([] : List (Int × Int)) (1, 550))) h11)) : SpecOk Tryz.prog G0 45 (fspec 2 [37, 34] [.fn (.func 69) [] [.ptr 0 0]] [(bF [.mapr 1] 112), (bM (.i .i64) (List.map mI (mrgK fst (setK fst ([] : List (Int × Int)) (1, 300)) (setK fst ([] : List (Int × Int)) (1, 550)))))] (.vec 2 ((sortI (List.map fst (mrgK fst (setK fst ([] : List (Int × Int)) (1, 300)) (setK fst ([] : List (Int × Int)) (1, 550))))).length) 1) [(bF [.mapr 1] 112), (bM (.i .i64) (List.map mI (mrgK fst (setK fst ([] : List (Int × Int)) (1, 300)) (setK fst ([] : List (Int × Int)) (1, 550))))), (bV (fl e_i64 (sortI (List.map fst (mrgK fst (setK fst ([] : List (Int × Int)) (1, 300)) (setK fst ([] : List (Int × Int)) (1, 550)))))) 3)])) (k2 (⟨rfl, rfl, rfl, trivial⟩ : (([.fn (.func 69) [] [.ptr 37 0]] : List AV) = [.fn (.func 69) [] [.ptr 37 0]]) ∧ (some (Ob.blk (bF [.mapr 34] 112)) = some (Ob.blk (bF [.mapr 34] 112))) ∧ (some (Ob.map (.i .i64) (List.map mI (mrgK fst (setK fst ([] : List (Int × Int)) (1, 300)) (setK fst ([] : List (Int × Int)) (1, 550))))) = some (Ob.map (.i .i64) (List.map mI (mrgK fst (setK fst ([] : List (Int × Int)) (1, 300)) (setK fst ([] : List (Int × Int)) (1, 550)))))) ∧ True) (k2 ((by first | rfl | simp only [List.length_replicate, List.length_set]) : (.vec 41 0 4 : AV) = .vec 41 (([] : (List TF)).length) 4) (k2 ((by first | rfl | simp only [List.length_replicate, List.length_set]) : (.vec 40 ((sortI (List.map fst (mrgK fst (setK fst ([] : List (Int × Int)) (1, 300)) (setK fst ([] : List (Int × Int)) (1, 550))))).length) 1 : AV) = .vec 40 ((sortI (List.map fst (mrgK fst (setK fst ([] : List (Int × Int)) (1, 300)) (setK fst ([] : List (Int × Int)) (1, 550))))).length) 1) (k2 (rfl : (jI 0 : AV) = jI (↑(0 : Nat) : Int)) (k2 (rfl : ((bV [] 39) : Blk) = renB [21, 33, 40, 41] (bV (fl TF.enc ([] : (List TF))) 39)) (k2 (w5awake_L12_does (s := ((0 : Nat), ([] : (List TF)))) (r := o12) hl12) (k2 (rfl : true = true) (k2 (rfl : false = false) (k2 (rfl : true = true) (k2 ((nB rfl) : 0 + 7 ≤ List.length ([.str [98], .str [], .str [], jI 0, jI 90000, .nils, jI 250] : List AV)) (k2 ((by decide) : 0 < 1) (k2 ((by decide) : 1 ≤ 4294967296) (k2 (rfl : true = true) (k2 (rfl : false = false) (k2 (rfl : true = true) (k2 ((nB rfl) : 0 + 7 ≤ List.length ([.str [99], .str [], .str [], jI 0, jI 90000, .nils, jI 300] : List AV)) (k2 ((by decide) : 0 < 1) (k2 (rfl : List.length ([.str [98], .str [], .str [], jI 0, jI 90000, .nils, jI 250] : List AV) = 7) (k2 ((by simp [AV.one]) : List.all ([.str [99], .str [], .str [], jI 0, jI 90000, .nils, jI 300] : List AV) AV.one = true) (k2 ((by decide) : 1 + 1 ≤ 4294967296) (k2 (rfl : false = false) (k2 (⟨rfl, rfl, nB rfl, nB rfl⟩ : sub [.str [98], .str [], .str [], jI 0, jI 90000, .nils, jI 250, .str [99], .str [], .str [], jI 0, jI 90000, .nils, jI 300] 0 14 = [.str [98], .str [], .str [], jI 0, jI 90000, .nils, jI 250, .str [99], .str [], .str [], jI 0, jI 90000, .nils, jI 300] ∧ 2 = 2 ∧ 0 + 14 ≤ List.length ([.str [98], .str [], .str [], jI 0, jI 90000, .nils, jI 250, .str [99], .str [], .str [], jI 0, jI 90000, .nils, jI 300] : List AV) ∧ 2 ≤ 2) (k2 (⟨rfl, rfl, nB rfl, nB rfl⟩ : sub [.str [98], .str [], .str [], jI 0, jI 90000, .nils, jI 250, .str [99], .str [], .str [], jI 0, jI 90000, .nils, jI 300] 0 14 = [.str [98], .str [], .str [], jI 0, jI 90000, .nils, jI 250, .str [99], .str [], .str [], jI 0, jI 90000, .nils, jI 300] ∧ 2 = 2 ∧ 0 + 14 ≤ List.length ([.str [98], .str [], .str [], jI 0, jI 90000, .nils, jI 250, .str [99], .str [], .str [], jI 0, jI 90000, .nils, jI 300] : List AV) ∧ 2 ≤ 2) (k2 (⟨(fl_dat (f := TF.enc) (fun _ => rfl)), trivial⟩ : datBlks [(bV (fl TF.enc r63) 39)]) (k2 ((Ret.nla 4 (aULocate_ret ([(⟨([98] : List UInt8), ([] : List UInt8), ([] : List UInt8), 0, 90000, [], 250⟩ : TC), (⟨([99] : List UInt8), ([] : List UInt8), ([] : List UInt8), 0, 90000, [], 300⟩ : TC)] : List TC) ([(⟨([98] : List UInt8), ([] : List UInt8), ([] : List UInt8), 0, 90000, [], 250⟩ : TC), (⟨([99] : List UInt8), ([] : List UInt8), ([] : List UInt8), 0, 90000, [], 300⟩ : TC)] : List TC) r63 h64)) : Ret Tryz.prog G0 16 [.lst [.str [98], .str [], .str [], jI 0, jI 90000, .nils, jI 250, .str [99], .str [], .str [], jI 0, jI 90000, .nils, jI 300] 2, .lst [.str [98], .str [], .str [], jI 0, jI 90000, .nils, jI 250, .str [99], .str [], .str [], jI 0, jI 90000, .nils, jI 300] 2] (.vec 0 r63.length 4) [(bV (fl TF.enc r63) 39)]) (k2 (rfl : true = true) (k2 (rfl : false = false) (k2 (rfl : false = false) (k2 (rfl : true = true) (k2 (rfl : false = false) (k2 (rfl : false = false) (k2 (rfl : false = false) (k2 (⟨rfl, rfl, nB rfl, nB rfl⟩ : sub [.str [98], .str [], .str [], jI 0, jI 90000, .nils, jI 250, .str [99], .str [], .str [], jI 0, jI 90000, .nils, jI 300] 0 14 = [.str [98], .str [], .str [], jI 0, jI 90000, .nils, jI 250, .str [99], .str [], .str [], jI 0, jI 90000, .nils, jI 300] ∧ 2 = 2 ∧ 0 + 14 ≤ List.length ([.str [98], .str [], .str [], jI 0, jI 90000, .nils, jI 250, .str [99], .str [], .str [], jI 0, jI 90000, .nils, jI 300] : List AV) ∧ 2 ≤ 2) (k2 (⟨(fl_dat (f := TF.enc) (fun _ => rfl)), trivial⟩ : datBlks [(bV (fl TF.enc r65) 39)]) (k2 ((Ret.nla 4 (aULocate_ret ([(⟨([98] : List UInt8), ([] : List UInt8), ([] : List UInt8), 0, 90000, [], 250⟩ : TC), (⟨([99] : List UInt8), ([] : List UInt8), ([] : List UInt8), 0, 90000, [], 300⟩ : TC)] : List TC) [] r65 h66)) : Ret Tryz.prog G0 16 [.lst [.str [98], .str [], .str [], jI 0, jI 90000, .nils, jI 250, .str [99], .str [], .str [], jI 0, jI 90000, .nils, jI 300] 2, .lst [] 0] (.vec 0 r65.length 4) [(bV (fl TF.enc r65) 39)]) (k2 (rfl : true = true) (k2 ((fspec_ok _ (framesNil_calls 0)) : SpecOk Tryz.prog G0 143 (fspec 0 [] [.nils, jI 0] [] (.nils) [])) (k2 (⟨rfl, trivial⟩ : (([.nils, jI 0] : List AV) = [.nils, jI 0]) ∧ True) (k2 (rfl : false = false) (k2 (rfl : false = false) (k2 (rfl : false = false) (k2 (rfl : false = false) (k2 (rfl : false = false) (k2 (rfl : false = false) (k2 (rfl : false = false) (k2 (rfl : 0 = 0) (k2 (rfl : false = false) (k2 (rfl : false = false) (k2 (rfl : false = false) (k2 (rfl : false = false) (k2 (rfl : false = false) (k2 (rfl : false = false) (k2 (rfl : false = false) (k2 (rfl : false = false) (k2 (rfl : false = false) (k2 (rfl : false = false) (k2 (rfl : false = false) (k2 (rfl : false = false) (k2 (rfl : false = false) (k2 (rfl : false = false) (k2 (rfl : true = true) (k2 (rfl : false = false) (k2 (rfl : false = false) (k2 (rfl : false = false) (k2 (rfl : false = false) (k2 (rfl : false = false) (k2 (rfl : false = false) (k2 (rfl : false = false) (k2 (rfl : false = false) (k2 (rfl : 0 = 0) (k2 (rfl : false = false) (k2 (rfl : true = true) (k2 (rfl : false = false) (k2 (rfl : false = false) (k2 (rfl : false = false) (k2 (rfl : false = false) (k2 (rfl : true = true) (k2 (rfl : false = false) (k2 (rfl : true = true) (k2 (rfl : false = false) (k2 (rfl : true = true) (k2 (rfl : false = false) (k2 (rfl : false = false) (k2 (rfl : false = false) (k2 (rfl : false = false) (k2 (rfl : true = true) (k2 (rfl : false = false) (k2 (rfl : true = true) (k2 (rfl : false = false) (k2 (rfl : false = false) (k2 (rfl : false = false) (k2 (rfl : false = false) (k2 (rfl : 0 = 0) (k2 (rfl : 0 = 0) (k2 (rfl : false = false) (k2 (rfl : false = false) (k2 (rfl : false = false) (k2 (rfl : false = false) (k2 (rfl : false = false) (k2 (rfl : false = false) (k2 (rfl : false = false) (k2 (rfl : false = false) (k2 (rfl : false = false) (k2 (rfl : false = false) (k2 (rfl : false = false) (k2 (rfl : false = false) (k2 (rfl : false = false) (k2 (rfl : false = false) (k2 (rfl : false = false) (k2 (rfl : false = false) (k2 (rfl : false = false) (k2 (rfl : false = false) (k2 (rfl : false = false) (k2 (rfl : 0 = 0) (k2 (rfl : false = false) (k2 (rfl : false = false) (k2 (rfl : false = false) (k2 (rfl : false = false) (k2 (⟨rfl, rfl, nB rfl, nB rfl⟩ : sub [.str [98], .str [], .str [], jI 0, jI 90000, .nils, jI 250, .str [99], .str [], .str [], jI 0, jI 90000, .nils, jI 300] 0 14 = [.str [98], .str [], .str [], jI 0, jI 90000, .nils, jI 250, .str [99], .str [], .str [], jI 0, jI 90000, .nils, jI 300] ∧ 2 = 2 ∧ 0 + 14 ≤ List.length ([.str [98], .str [], .str [], jI 0, jI 90000, .nils, jI 250, .str [99], .str [], .str [], jI 0, jI 90000, .nils, jI 300] : List AV) ∧ 2 ≤ 2) (k2 (⟨(fl_dat (f := TF.enc) (fun _ => rfl)), trivial⟩ : datBlks [(bV (fl TF.enc r67) 39)]) (k2 ((Ret.nla 4 (aULocate_ret ([(⟨([98] : List UInt8), ([] : List UInt8), ([] : List UInt8), 0, 90000, [], 250⟩ : TC), (⟨([99] : List UInt8), ([] : List UInt8), ([] : List UInt8), 0, 90000, [], 300⟩ : TC)] : List TC) [] r67 h68)) : Ret Tryz.prog G0 16 [.lst [.str [98], .str [], .str [], jI 0, jI 90000, .nils, jI 250, .str [99], .str [], .str [], jI 0, jI 90000, .nils, jI 300] 2, .lst [] 0] (.vec 0 r67.length 4) [(bV (fl TF.enc r67) 39)]) (k2 (not_f (beq_t c69)) (k2 (not_f (beq_t c70)) (k2 (ir h72) (k2 (fl_sub (f := TF.enc) (z := 4) (j := 0) (a := 0) (n := 1) (fun _ => rfl) h72 (by decide) rfl) (k2 (not_f (beq_t c73)) (k2 (ir h72) (k2 (fl_sub (f := TF.enc) (z := 4) (j := 0) (a := 2) (n := 1) (fun _ => rfl) h72 (by decide) rfl) (k2 (not_f (beq_t c74)) (k2 (ir h72) (k2 (fl_sub (f := TF.enc) (z := 4) (j := 0) (a := 3) (n := 1) (fun _ => rfl) h72 (by decide) rfl) (k2 (not_f (beq_t c75)) (k2 (rfl : false = false) (k2 (⟨rfl, rfl, (fl_length (f := TF.enc) (z := 4) (fun _ => rfl) _)⟩ : (fl TF.enc r9) = (fl TF.enc r9) ∧ r9.length = r9.length ∧ List.length ((fl TF.enc r9) : List AV) = (r9.length * 4)) (k2 (⟨rfl, rfl, nB rfl, nB rfl⟩ : sub [.str [97], jI 1, jI 100, jI 0, .str [98], jI 1, jI 200, jI 250, .str [99], jI 1, jI 0, jI 300] 0 12 = [.str [97], jI 1, jI 100, jI 0, .str [98], jI 1, jI 200, jI 250, .str [99], jI 1, jI 0, jI 300] ∧ 3 = 3 ∧ 0 + 12 ≤ List.length ([.str [97], jI 1, jI 100, jI 0, .str [98], jI 1, jI 200, jI 250, .str [99], jI 1, jI 0, jI 300] : List AV) ∧ 3 ≤ 3) (k2 (trivial : datBlks []) (k2 (f50SameFindings_ret r9 ([(⟨([97] : List UInt8), 1, 100, 0⟩ : TF), (⟨([98] : List UInt8), 1, 200, 250⟩ : TF), (⟨([99] : List UInt8), 1, 0, 300⟩ : TF)] : List TF) r76 h77) (k2 c78 (k2 (⟨rfl, rfl, (fl_length (f := TF.enc) (z := 4) (fun _ => rfl) _)⟩ : (fl TF.enc o12) = (fl TF.enc o12) ∧ o12.length = o12.length ∧ List.length ((fl TF.enc o12) : List AV) = (o12.length * 4)) (k2 (⟨rfl, rfl, nB rfl, nB rfl⟩ : sub [.str [], jI 1, jI 300, jI 550] 0 4 = [.str [], jI 1, jI 300, jI 550] ∧ 1 = 1 ∧ 0 + 4 ≤ List.length ([.str [], jI 1, jI 300, jI 550] : List AV) ∧ 1 ≤ 1) (k2 (trivial : datBlks []) (k2 (f50SameFindings_ret o12 ([(⟨([] : List UInt8), 1, 300, 550⟩ : TF)] : List TF) r79 h80) (k2 c81 (k2 (⟨rfl, rfl, nB rfl, nB rfl⟩ : sub [.str [97], .str [], .str [], jI 0, jI 90000, .nils, jI 100, .str [98], .str [], .str [], jI 0, jI 90000, .nils, jI 200] 0 14 = [.str [97], .str [], .str [], jI 0, jI 90000, .nils, jI 100, .str [98], .str [], .str [], jI 0, jI 90000, .nils, jI 200] ∧ 2 = 2 ∧ 0 + 14 ≤ List.length ([.str [97], .str [], .str [], jI 0, jI 90000, .nils, jI 100, .str [98], .str [], .str [], jI 0, jI 90000, .nils, jI 200] : List AV) ∧ 2 ≤ 2) (k2 (⟨rfl, rfl, nB rfl, nB rfl⟩ : sub [.str [98], .str [], .str [], jI 0, jI 90000, .nils, jI 250, .str [99], .str [], .str [], jI 0, jI 90000, .nils, jI 300] 0 14 = [.str [98], .str [], .str [], jI 0, jI 90000, .nils, jI 250, .str [99], .str [], .str [], jI 0, jI 90000, .nils, jI 300] ∧ 2 = 2 ∧ 0 + 14 ≤ List.length ([.str [98], .str [], .str [], jI 0, jI 90000, .nils, jI 250, .str [99], .str [], .str [], jI 0, jI 90000, .nils, jI 300] : List AV) ∧ 2 ≤ 2) (k2 (trivial : datBlks []) (ok1 ((Ret.nla 4 (aULost_ret ([(⟨([97] : List UInt8), ([] : List UInt8), ([] : List UInt8), 0, 90000, [], 100⟩ : TC), (⟨([98] : List UInt8), ([] : List UInt8), ([] : List UInt8), 0, 90000, [], 200⟩ : TC)] : List TC) ([(⟨([98] : List UInt8), ([] : List UInt8), ([] : List UInt8), 0, 90000, [], 250⟩ : TC), (⟨([99] : List UInt8), ([] : List UInt8), ([] : List UInt8), 0, 90000, [], 300⟩ : TC)] : List TC) r82 h83)) : Ret Tryz.prog G0 20 [.lst [.str [97], .str [], .str [], jI 0, jI 90000, .nils, jI 100, .str [98], .str [], .str [], jI 0, jI 90000, .nils, jI 200] 2, .lst [.str [98], .str [], .str [], jI 0, jI 90000, .nils, jI 250, .str [99], .str [], .str [], jI 0, jI 90000, .nils, jI 300] 2] (jI r82) []))))))))))))))))))))))))))))))))))))))))))))))))))))))))))))))))))))))))))))))))))))))))))))))))))))))))))))))))))))))))))))))))))))))))))))))))))))))))))))))))))))))))))))))))))))))))))))))))))))))))))))))))))))))))))))))))))))))))))))))))))))))))))))))))))))))
         ·cases h
        ·cases h
       ·cases h
      ·cases h
     ·cases h
    ·cases h
   ·cases h
  ·cases h
 ·cases h
end
end Go.Proofs.YtpadimnchmghpaaGreatDoor.Av
