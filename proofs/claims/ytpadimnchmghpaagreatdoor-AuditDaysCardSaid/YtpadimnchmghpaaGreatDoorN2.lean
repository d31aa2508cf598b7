import Derived.Test.YtpadimnchmghpaaGreatDoorN1
import Derived.Test.YtpadimnchmghpaaGreatDoorSkD
open Prod (fst)
open Int (tdiv tmod)
set_option maxHeartbeats 4000000
set_option maxRecDepth 100000
set_option linter.unusedVariables false
set_option linter.unusedSimpArgs false
namespace Go.Proofs.YtpadimnchmghpaaGreatDoor.Av
noncomputable section
open Go Go.Proofs
structure TF where
 Key : (List UInt8)
 Day : Int
 Have : Int
 Want : Int
def TF.enc (x : TF) : List AV := [.str x.Key, .int .i64 x.Day, .int .i64 x.Have, .int .i64 x.Want]
def aULocate_L1_step (have_0 : (List TC)) : (Nat × (List ((List UInt8) × TC))) → Option ((Nat × (List ((List UInt8) × TC))) ⊕ (List ((List UInt8) × TC)))
 | (k11, b0) =>
  if (↑k11 : Int) < (↑have_0.length : Int) then
   (have_0[k11]?).bind fun x19 =>
   if ((getK fst b0 x19.Key).isSome) = true then
    (getK fst b0 x19.Key).bind fun q22 =>
    if InR .i64 ((↑k11 : Int) + 1) then
     some (Sum.inl ((k11 + 1), b0))
    else none
   else
    if InR .i64 ((↑k11 : Int) + 1) then
     some (Sum.inl ((k11 + 1), (setK fst b0 (x19.Key, x19))))
    else none
  else
   some (Sum.inr b0)
def aULocate_L1_H (have_0 : (List TC)) : (Nat × (List ((List UInt8) × TC))) → St := fun (s : (Nat × (List ((List UInt8) × TC)))) => S 30 [(3, .mapr 0), (9, .lst (fl TC.enc have_0) have_0.length), (10, .int .i64 (↑have_0.length : Int)), (11, .int .i64 (↑s.1 : Int))] [(bM .s (List.map mTC s.2))]
def aULocate_L1_X (have_0 : (List TC)) : (List ((List UInt8) × TC)) → AEx := fun o => (.exit 0)
def aULocate_L1_T (have_0 : (List TC)) : (List ((List UInt8) × TC)) → List (Nat × AV) := fun o => [(3, .mapr 0)]
def aULocate_L1_B (have_0 : (List TC)) : (List ((List UInt8) × TC)) → List Blk := fun o => [(bM .s (List.map mTC o))]
def aULocate_L1_E (have_0 : (List TC)) (q : (List ((List UInt8) × TC))) : St := S 30 (aULocate_L1_T have_0 q) (aULocate_L1_B have_0 q)
theorem aULocate_L1_does (have_0 : (List TC)) {s : (Nat × (List ((List UInt8) × TC)))} {r : (List ((List UInt8) × TC))} (h : lp (aULocate_L1_step have_0) s = some r) : Does Tryz.prog G0 1 (.loop (bodyAt Tryz.prog 30 [1, 1, 0, 1, 0, 0])) (aULocate_L1_H have_0 s) (aULocate_L1_X have_0 r) (aULocate_L1_E have_0 r) := by
 refine Does.lp (H := aULocate_L1_H have_0) (X := aULocate_L1_X have_0) (E := aULocate_L1_E have_0) (fun s s2 h => ?_) (fun s r h => ?_) h
 ·obtain ⟨k11, b0⟩ := s
  unfold aULocate_L1_step at h
  try dsimp only at h
  rcases itS h with ⟨c18, h⟩ | ⟨c18, h⟩
  ·obtain ⟨x19, h20, h⟩ := bnS h
   let f26 : List CH := (oa :: bt :: (.op none (.i k11)) :: (.op none (.v [.str x19.Key, .str x19.Vehicle, .str x19.System, .int .i64 x19.Class, .int .i64 x19.Time, .lst (fl TL.enc x19.Lines) x19.Lines.length, .int .i64 x19.Cents])) :: (cs 5 []))
   have g27 := k2 (dT c18) (k2 (ir h20) (k2 (fl_ne (f := TC.enc) (z := 6) (fun _ => rfl) h20) (ok1 (fl_sub0 (f := TC.enc) (z := 7) (j := k11) (fun _ => rfl) h20 rfl))))
   rcases itS h with ⟨c21, h⟩ | ⟨c21, h⟩
   ·obtain ⟨q22, h23, h⟩ := bnS h
    obtain ⟨h24, h⟩ := gdS h
    obtain rfl := oL h
    exact Does.of_viewM 1 400 (f26 ++ ((.op none (.v [.agg (TC.enc q22.2)])) :: (cs 8 [.br false, ow, oc]))) [0] (by kernel_rfl) (by kernel_rfl) (aO g27 (k2 ((lookK_some mTC_key (k := x19.Key) (mTC_at _) h23) : lookE (List.map mTC b0) (.str x19.Key) = some (.agg (TC.enc q22.2))) (k2 (rfl : false = false) (ok1 h24))))
   ·obtain ⟨h25, h⟩ := gdS h
    obtain rfl := oL h
    exact Does.of_viewM 1 400 (f26 ++ ((.op none (.b false)) :: (cs 8 (bt :: (cs 5 [.tr (.mp 0 (List.map mTC (setK fst b0 (x19.Key, x19)))), ow, oc]))))) [0] (by kernel_rfl) (by kernel_rfl) (aO g27 (k2 ((lookK_none mTC_key (k := x19.Key) (mTC_at _) (getK_no c21)) : lookE (List.map mTC b0) (.str x19.Key) = none) (k2 (rfl : true = true) (k2 ((List.Perm.of_eq (set_map (κ := fst) mTC_key b0 (x19.Key, x19))) : List.Perm (setE (List.map mTC b0) (.str x19.Key) (.agg (TC.enc x19))) (List.map mTC (setK fst b0 (x19.Key, x19)))) (ok1 h25)))))
  ·simp at h
 ·obtain ⟨k11, b0⟩ := s
  unfold aULocate_L1_step at h
  try dsimp only at h
  rcases itS h with ⟨c18, h⟩ | ⟨c18, h⟩
  ·obtain ⟨x19, h20, h⟩ := bnS h
   rcases itS h with ⟨c21, h⟩ | ⟨c21, h⟩
   ·obtain ⟨q22, h23, h⟩ := bnS h
    obtain ⟨h24, h⟩ := gdS h
    simp at h
   ·obtain ⟨h25, h⟩ := gdS h
    simp at h
  ·obtain rfl := oR h
   exact ⟨Does.of_viewM 1 400 [oa, .br false] [0] (by kernel_rfl) (by kernel_rfl) (ok1 (dF c18)), by intro q; cases q⟩
def aULocate_L26_step (want_1 : (List TC)) : (Nat × (List ((List UInt8) × TC))) → Option ((Nat × (List ((List UInt8) × TC))) ⊕ (List ((List UInt8) × TC)))
 | (k11, b2) =>
  if (↑k11 : Int) < (↑want_1.length : Int) then
   (want_1[k11]?).bind fun x44 =>
   if ((getK fst b2 x44.Key).isSome) = true then
    (getK fst b2 x44.Key).bind fun q47 =>
    if InR .i64 ((↑k11 : Int) + 1) then
     some (Sum.inl ((k11 + 1), b2))
    else none
   else
    if InR .i64 ((↑k11 : Int) + 1) then
     some (Sum.inl ((k11 + 1), (setK fst b2 (x44.Key, x44))))
    else none
  else
   some (Sum.inr b2)
def aULocate_L26_H (want_1 : (List TC)) : (Nat × (List ((List UInt8) × TC))) → St := fun (s : (Nat × (List ((List UInt8) × TC)))) => S 30 [(3, .mapr 0), (9, .lst (fl TC.enc want_1) want_1.length), (10, .int .i64 (↑want_1.length : Int)), (11, .int .i64 (↑s.1 : Int))] [(bM .s (List.map mTC s.2))]
def aULocate_L26_X (want_1 : (List TC)) : (List ((List UInt8) × TC)) → AEx := fun o => (.exit 0)
def aULocate_L26_T (want_1 : (List TC)) : (List ((List UInt8) × TC)) → List (Nat × AV) := fun o => [(3, .mapr 0)]
def aULocate_L26_B (want_1 : (List TC)) : (List ((List UInt8) × TC)) → List Blk := fun o => [(bM .s (List.map mTC o))]
def aULocate_L26_E (want_1 : (List TC)) (q : (List ((List UInt8) × TC))) : St := S 30 (aULocate_L26_T want_1 q) (aULocate_L26_B want_1 q)
theorem aULocate_L26_does (want_1 : (List TC)) {s : (Nat × (List ((List UInt8) × TC)))} {r : (List ((List UInt8) × TC))} (h : lp (aULocate_L26_step want_1) s = some r) : Does Tryz.prog G0 1 (.loop (bodyAt Tryz.prog 30 [1, 1, 0, 1, 0, 0])) (aULocate_L26_H want_1 s) (aULocate_L26_X want_1 r) (aULocate_L26_E want_1 r) := by
 refine Does.lp (H := aULocate_L26_H want_1) (X := aULocate_L26_X want_1) (E := aULocate_L26_E want_1) (fun s s2 h => ?_) (fun s r h => ?_) h
 ·obtain ⟨k11, b2⟩ := s
  unfold aULocate_L26_step at h
  try dsimp only at h
  rcases itS h with ⟨c43, h⟩ | ⟨c43, h⟩
  ·obtain ⟨x44, h45, h⟩ := bnS h
   let f28 : List CH := (oa :: bt :: (.op none (.i k11)) :: (.op none (.v [.str x44.Key, .str x44.Vehicle, .str x44.System, .int .i64 x44.Class, .int .i64 x44.Time, .lst (fl TL.enc x44.Lines) x44.Lines.length, .int .i64 x44.Cents])) :: (cs 5 []))
   have g29 := k2 (dT c43) (k2 (ir h45) (k2 (fl_ne (f := TC.enc) (z := 6) (fun _ => rfl) h45) (ok1 (fl_sub0 (f := TC.enc) (z := 7) (j := k11) (fun _ => rfl) h45 rfl))))
   rcases itS h with ⟨c46, h⟩ | ⟨c46, h⟩
   ·obtain ⟨q47, h48, h⟩ := bnS h
    obtain ⟨h49, h⟩ := gdS h
    obtain rfl := oL h
    exact Does.of_viewM 1 400 (f28 ++ ((.op none (.v [.agg (TC.enc q47.2)])) :: (cs 8 [.br false, ow, oc]))) [0] (by kernel_rfl) (by kernel_rfl) (aO g29 (k2 ((lookK_some mTC_key (k := x44.Key) (mTC_at _) h48) : lookE (List.map mTC b2) (.str x44.Key) = some (.agg (TC.enc q47.2))) (k2 (rfl : false = false) (ok1 h49))))
   ·obtain ⟨h50, h⟩ := gdS h
    obtain rfl := oL h
    exact Does.of_viewM 1 400 (f28 ++ ((.op none (.b false)) :: (cs 8 (bt :: (cs 5 [.tr (.mp 0 (List.map mTC (setK fst b2 (x44.Key, x44)))), ow, oc]))))) [0] (by kernel_rfl) (by kernel_rfl) (aO g29 (k2 ((lookK_none mTC_key (k := x44.Key) (mTC_at _) (getK_no c46)) : lookE (List.map mTC b2) (.str x44.Key) = none) (k2 (rfl : true = true) (k2 ((List.Perm.of_eq (set_map (κ := fst) mTC_key b2 (x44.Key, x44))) : List.Perm (setE (List.map mTC b2) (.str x44.Key) (.agg (TC.enc x44))) (List.map mTC (setK fst b2 (x44.Key, x44)))) (ok1 h50)))))
  ·simp at h
 ·obtain ⟨k11, b2⟩ := s
  unfold aULocate_L26_step at h
  try dsimp only at h
  rcases itS h with ⟨c43, h⟩ | ⟨c43, h⟩
  ·obtain ⟨x44, h45, h⟩ := bnS h
   rcases itS h with ⟨c46, h⟩ | ⟨c46, h⟩
   ·obtain ⟨q47, h48, h⟩ := bnS h
    obtain ⟨h49, h⟩ := gdS h
    simp at h
   ·obtain ⟨h50, h⟩ := gdS h
    simp at h
  ·obtain rfl := oR h
   exact ⟨Does.of_viewM 1 400 [oa, .br false] [0] (by kernel_rfl) (by kernel_rfl) (ok1 (dF c43)), by intro q; cases q⟩
def aULocate_L53_step (o1 : (List ((List UInt8) × TC))) (o26 : (List ((List UInt8) × TC))) : (Nat × (List Int)) → Option ((Nat × (List Int)) ⊕ (List Int))
 | (k15, b11) =>
  if (↑k15 : Int) < (↑((sortS (List.map fst (mrgK fst (o1) (o26)))).length) : Int) then
   ((sortS (List.map fst (mrgK fst (o1) (o26))))[k15]?).bind fun x80 =>
   if ((getK fst o1 x80).isSome) = true then
    (getK fst o1 x80).bind fun q83 =>
    (aUleaf q83.2).bind fun r85 =>
    (b11[k15]?).bind fun x87 =>
    if InR .i64 ((↑k15 : Int) + 1) then
     some (Sum.inl ((k15 + 1), (List.set b11 k15 r85)))
    else none
   else
    if InR .i64 ((↑k15 : Int) + 1) then
     some (Sum.inl ((k15 + 1), b11))
    else none
  else
   some (Sum.inr b11)
def aULocate_L53_H (o1 : (List ((List UInt8) × TC))) (o26 : (List ((List UInt8) × TC))) : (Nat × (List Int)) → St := fun (s : (Nat × (List Int))) => S 34 [(0, .mapr 0), (5, .vec 1 s.2.length 1), (13, .vec 2 ((sortS (List.map fst (mrgK fst (o1) (o26)))).length) 1), (14, .int .i64 (↑((sortS (List.map fst (mrgK fst (o1) (o26)))).length) : Int)), (15, .int .i64 (↑s.1 : Int))] [(bM .s (List.map mTC o1)), (bV (fl e_u64 s.2) 41), (bV (fl e_str (sortS (List.map fst (mrgK fst (o1) (o26))))) 9)]
def aULocate_L53_X (o1 : (List ((List UInt8) × TC))) (o26 : (List ((List UInt8) × TC))) : (List Int) → AEx := fun o => (.exit 0)
def aULocate_L53_T (o1 : (List ((List UInt8) × TC))) (o26 : (List ((List UInt8) × TC))) : (List Int) → List (Nat × AV) := fun o => [(5, .vec 1 o.length 1)]
def aULocate_L53_B (o1 : (List ((List UInt8) × TC))) (o26 : (List ((List UInt8) × TC))) : (List Int) → List Blk := fun o => [(bM .s (List.map mTC o1)), (bV (fl e_u64 o) 41), (bV (fl e_str (sortS (List.map fst (mrgK fst (o1) (o26))))) 9)]
def aULocate_L53_E (o1 : (List ((List UInt8) × TC))) (o26 : (List ((List UInt8) × TC))) (q : (List Int)) : St := S 34 (aULocate_L53_T o1 o26 q) (aULocate_L53_B o1 o26 q)
theorem aULocate_L53_does (o1 : (List ((List UInt8) × TC))) (o26 : (List ((List UInt8) × TC))) {s : (Nat × (List Int))} {r : (List Int)} (h : lp (aULocate_L53_step o1 o26) s = some r) : Does Tryz.prog G0 3 (.loop (bodyAt Tryz.prog 36 [1, 1, 0, 1, 0, 0])) (aULocate_L53_H o1 o26 s) (aULocate_L53_X o1 o26 r) (aULocate_L53_E o1 o26 r) := by
 refine Does.lp (H := aULocate_L53_H o1 o26) (X := aULocate_L53_X o1 o26) (E := aULocate_L53_E o1 o26) (fun s s2 h => ?_) (fun s r h => ?_) h
 ·obtain ⟨k15, b11⟩ := s
  unfold aULocate_L53_step at h
  try dsimp only at h
  rcases itS h with ⟨c79, h⟩ | ⟨c79, h⟩
  ·obtain ⟨x80, h81, h⟩ := bnS h
   let f30 : List CH := (oa :: bt :: oc :: (.op none (.i k15)) :: (.op none (.v [.str x80])) :: (cs 4 []))
   have g31 := k2 (dT c79) (k2 (ir h81) (ok1 (s_str h81)))
   rcases itS h with ⟨c82, h⟩ | ⟨c82, h⟩
   ·obtain ⟨q83, h84, h⟩ := bnS h
    obtain ⟨r85, h86, h⟩ := bnS h
    obtain ⟨x87, h88, h⟩ := bnS h
    obtain ⟨h89, h⟩ := gdS h
    obtain rfl := oL h
    simp only [aULocate_L53_H, List.length_set]
    exact Does.of_viewM 3 400 (f30 ++ ((.op none (.v [.agg (TC.enc q83.2)])) :: (cs 7 (bt :: (cs 3 [.ret none [.any] (.int .u64 r85) [], .op none (.i k15), oa, .tr (.eqc 1 (fl e_u64 (List.set b11 k15 r85))), ow, oc]))))) [0, 1, 2] (by kernel_rfl) (by kernel_rfl) (aO g31 (k2 ((lookK_some mTC_key (k := x80) (mTC_at _) h84) : lookE (List.map mTC o1) (.str x80) = some (.agg (TC.enc q83.2))) (k2 (rfl : true = true) (k2 (aUleaf_ret q83.2 r85 h86) (k2 (ir h88) (k2 (rm_u64 h88) (k2 (st_u64 r85 h88) (ok1 h89))))))))
   ·obtain ⟨h90, h⟩ := gdS h
    obtain rfl := oL h
    exact Does.of_viewM 3 400 (f30 ++ ((.op none (.b false)) :: (cs 7 [.br false, ow, oc]))) [0, 1, 2] (by kernel_rfl) (by kernel_rfl) (aO g31 (k2 ((lookK_none mTC_key (k := x80) (mTC_at _) (getK_no c82)) : lookE (List.map mTC o1) (.str x80) = none) (k2 (rfl : false = false) (ok1 h90))))
  ·simp at h
 ·obtain ⟨k15, b11⟩ := s
  unfold aULocate_L53_step at h
  try dsimp only at h
  rcases itS h with ⟨c79, h⟩ | ⟨c79, h⟩
  ·obtain ⟨x80, h81, h⟩ := bnS h
   rcases itS h with ⟨c82, h⟩ | ⟨c82, h⟩
   ·obtain ⟨q83, h84, h⟩ := bnS h
    obtain ⟨r85, h86, h⟩ := bnS h
    obtain ⟨x87, h88, h⟩ := bnS h
    obtain ⟨h89, h⟩ := gdS h
    simp at h
   ·obtain ⟨h90, h⟩ := gdS h
    simp at h
  ·obtain rfl := oR h
   exact ⟨Does.of_viewM 3 400 [oa, .br false] [0, 1, 2] (by kernel_rfl) (by kernel_rfl) (ok1 (dF c79)), by intro q; cases q⟩
def aULocate_L91_step (o1 : (List ((List UInt8) × TC))) (o26 : (List ((List UInt8) × TC))) : (Nat × (List Int)) → Option ((Nat × (List Int)) ⊕ (List Int))
 | (k15, b15) =>
  if (↑k15 : Int) < (↑((sortS (List.map fst (mrgK fst (o1) (o26)))).length) : Int) then
   ((sortS (List.map fst (mrgK fst (o1) (o26))))[k15]?).bind fun x118 =>
   if ((getK fst o26 x118).isSome) = true then
    (getK fst o26 x118).bind fun q121 =>
    (aUleaf q121.2).bind fun r123 =>
    (b15[k15]?).bind fun x125 =>
    if InR .i64 ((↑k15 : Int) + 1) then
     some (Sum.inl ((k15 + 1), (List.set b15 k15 r123)))
    else none
   else
    if InR .i64 ((↑k15 : Int) + 1) then
     some (Sum.inl ((k15 + 1), b15))
    else none
  else
   some (Sum.inr b15)
def aULocate_L91_H (o1 : (List ((List UInt8) × TC))) (o26 : (List ((List UInt8) × TC))) : (Nat × (List Int)) → St := fun (s : (Nat × (List Int))) => S 34 [(0, .mapr 0), (5, .vec 1 s.2.length 1), (13, .vec 2 ((sortS (List.map fst (mrgK fst (o1) (o26)))).length) 1), (14, .int .i64 (↑((sortS (List.map fst (mrgK fst (o1) (o26)))).length) : Int)), (15, .int .i64 (↑s.1 : Int))] [(bM .s (List.map mTC o26)), (bV (fl e_u64 s.2) 41), (bV (fl e_str (sortS (List.map fst (mrgK fst (o1) (o26))))) 9)]
def aULocate_L91_X (o1 : (List ((List UInt8) × TC))) (o26 : (List ((List UInt8) × TC))) : (List Int) → AEx := fun o => (.exit 0)
def aULocate_L91_T (o1 : (List ((List UInt8) × TC))) (o26 : (List ((List UInt8) × TC))) : (List Int) → List (Nat × AV) := fun o => [(5, .vec 1 o.length 1)]
def aULocate_L91_B (o1 : (List ((List UInt8) × TC))) (o26 : (List ((List UInt8) × TC))) : (List Int) → List Blk := fun o => [(bM .s (List.map mTC o26)), (bV (fl e_u64 o) 41), (bV (fl e_str (sortS (List.map fst (mrgK fst (o1) (o26))))) 9)]
def aULocate_L91_E (o1 : (List ((List UInt8) × TC))) (o26 : (List ((List UInt8) × TC))) (q : (List Int)) : St := S 34 (aULocate_L91_T o1 o26 q) (aULocate_L91_B o1 o26 q)
theorem aULocate_L91_does (o1 : (List ((List UInt8) × TC))) (o26 : (List ((List UInt8) × TC))) {s : (Nat × (List Int))} {r : (List Int)} (h : lp (aULocate_L91_step o1 o26) s = some r) : Does Tryz.prog G0 3 (.loop (bodyAt Tryz.prog 36 [1, 1, 0, 1, 0, 0])) (aULocate_L91_H o1 o26 s) (aULocate_L91_X o1 o26 r) (aULocate_L91_E o1 o26 r) := by
 refine Does.lp (H := aULocate_L91_H o1 o26) (X := aULocate_L91_X o1 o26) (E := aULocate_L91_E o1 o26) (fun s s2 h => ?_) (fun s r h => ?_) h
 ·obtain ⟨k15, b15⟩ := s
  unfold aULocate_L91_step at h
  try dsimp only at h
  rcases itS h with ⟨c117, h⟩ | ⟨c117, h⟩
  ·obtain ⟨x118, h119, h⟩ := bnS h
   let f32 : List CH := (oa :: bt :: oc :: (.op none (.i k15)) :: (.op none (.v [.str x118])) :: (cs 4 []))
   have g33 := k2 (dT c117) (k2 (ir h119) (ok1 (s_str h119)))
   rcases itS h with ⟨c120, h⟩ | ⟨c120, h⟩
   ·obtain ⟨q121, h122, h⟩ := bnS h
    obtain ⟨r123, h124, h⟩ := bnS h
    obtain ⟨x125, h126, h⟩ := bnS h
    obtain ⟨h127, h⟩ := gdS h
    obtain rfl := oL h
    simp only [aULocate_L91_H, List.length_set]
    exact Does.of_viewM 3 400 (f32 ++ ((.op none (.v [.agg (TC.enc q121.2)])) :: (cs 7 (bt :: (cs 3 [.ret none [.any] (.int .u64 r123) [], .op none (.i k15), oa, .tr (.eqc 1 (fl e_u64 (List.set b15 k15 r123))), ow, oc]))))) [0, 1, 2] (by kernel_rfl) (by kernel_rfl) (aO g33 (k2 ((lookK_some mTC_key (k := x118) (mTC_at _) h122) : lookE (List.map mTC o26) (.str x118) = some (.agg (TC.enc q121.2))) (k2 (rfl : true = true) (k2 (aUleaf_ret q121.2 r123 h124) (k2 (ir h126) (k2 (rm_u64 h126) (k2 (st_u64 r123 h126) (ok1 h127))))))))
   ·obtain ⟨h128, h⟩ := gdS h
    obtain rfl := oL h
    exact Does.of_viewM 3 400 (f32 ++ ((.op none (.b false)) :: (cs 7 [.br false, ow, oc]))) [0, 1, 2] (by kernel_rfl) (by kernel_rfl) (aO g33 (k2 ((lookK_none mTC_key (k := x118) (mTC_at _) (getK_no c120)) : lookE (List.map mTC o26) (.str x118) = none) (k2 (rfl : false = false) (ok1 h128))))
  ·simp at h
 ·obtain ⟨k15, b15⟩ := s
  unfold aULocate_L91_step at h
  try dsimp only at h
  rcases itS h with ⟨c117, h⟩ | ⟨c117, h⟩
  ·obtain ⟨x118, h119, h⟩ := bnS h
   rcases itS h with ⟨c120, h⟩ | ⟨c120, h⟩
   ·obtain ⟨q121, h122, h⟩ := bnS h
    obtain ⟨r123, h124, h⟩ := bnS h
    obtain ⟨x125, h126, h⟩ := bnS h
    obtain ⟨h127, h⟩ := gdS h
    simp at h
   ·obtain ⟨h128, h⟩ := gdS h
    simp at h
  ·obtain rfl := oR h
   exact ⟨Does.of_viewM 3 400 [oa, .br false] [0, 1, 2] (by kernel_rfl) (by kernel_rfl) (ok1 (dF c117)), by intro q; cases q⟩
def aULocate_L131_step (o1 : (List ((List UInt8) × TC))) (o26 : (List ((List UInt8) × TC))) (r129 : ((List Int) × Int)) : (Nat × (List TF)) → Option ((Nat × (List TF)) ⊕ (List TF))
 | (k39, b20) =>
  if (↑k39 : Int) < (↑r129.1.length : Int) then
   (r129.1[k39]?).bind fun x180 =>
   if (0 : Int) ≤ x180 then
    ((sortS (List.map fst (mrgK fst (o1) (o26))))[x180.toNat]?).bind fun x183 =>
    if ((getK fst (mrgK fst (o1) (o26)) x183).isSome) = true then
     (getK fst (mrgK fst (o1) (o26)) x183).bind fun q186 =>
     (clock_Day q186.2.Time).bind fun r188 =>
     if ((getK fst o1 x183).isSome) = true then
      (getK fst o1 x183).bind fun q191 =>
      if ((getK fst o26 x183).isSome) = true then
       (getK fst o26 x183).bind fun q194 =>
       if b20.length + 1 ≤ 4294967296 then
        if InR .i64 ((↑k39 : Int) + 1) then
         some (Sum.inl ((k39 + 1), (b20 ++ [(⟨x183, r188, q191.2.Cents, q194.2.Cents⟩ : TF)])))
        else none
       else none
      else
       if b20.length + 1 ≤ 4294967296 then
        if InR .i64 ((↑k39 : Int) + 1) then
         some (Sum.inl ((k39 + 1), (b20 ++ [(⟨x183, r188, q191.2.Cents, 0⟩ : TF)])))
        else none
       else none
     else
      if ((getK fst o26 x183).isSome) = true then
       (getK fst o26 x183).bind fun q201 =>
       if b20.length + 1 ≤ 4294967296 then
        if InR .i64 ((↑k39 : Int) + 1) then
         some (Sum.inl ((k39 + 1), (b20 ++ [(⟨x183, r188, 0, q201.2.Cents⟩ : TF)])))
        else none
       else none
      else
       if b20.length + 1 ≤ 4294967296 then
        if InR .i64 ((↑k39 : Int) + 1) then
         some (Sum.inl ((k39 + 1), (b20 ++ [(⟨x183, r188, 0, 0⟩ : TF)])))
        else none
       else none
    else
     (clock_Day 0).bind fun r207 =>
     if ((getK fst o1 x183).isSome) = true then
      (getK fst o1 x183).bind fun q210 =>
      if ((getK fst o26 x183).isSome) = true then
       (getK fst o26 x183).bind fun q213 =>
       if b20.length + 1 ≤ 4294967296 then
        if InR .i64 ((↑k39 : Int) + 1) then
         some (Sum.inl ((k39 + 1), (b20 ++ [(⟨x183, r207, q210.2.Cents, q213.2.Cents⟩ : TF)])))
        else none
       else none
      else
       if b20.length + 1 ≤ 4294967296 then
        if InR .i64 ((↑k39 : Int) + 1) then
         some (Sum.inl ((k39 + 1), (b20 ++ [(⟨x183, r207, q210.2.Cents, 0⟩ : TF)])))
        else none
       else none
     else
      if ((getK fst o26 x183).isSome) = true then
       (getK fst o26 x183).bind fun q220 =>
       if b20.length + 1 ≤ 4294967296 then
        if InR .i64 ((↑k39 : Int) + 1) then
         some (Sum.inl ((k39 + 1), (b20 ++ [(⟨x183, r207, 0, q220.2.Cents⟩ : TF)])))
        else none
       else none
      else
       if b20.length + 1 ≤ 4294967296 then
        if InR .i64 ((↑k39 : Int) + 1) then
         some (Sum.inl ((k39 + 1), (b20 ++ [(⟨x183, r207, 0, 0⟩ : TF)])))
        else none
       else none
   else none
  else
   some (Sum.inr b20)
def aULocate_L131_H (o1 : (List ((List UInt8) × TC))) (o26 : (List ((List UInt8) × TC))) (r129 : ((List Int) × Int)) : (Nat × (List TF)) → St := fun (s : (Nat × (List TF))) => S 67 [(5, .mapr 0), (6, .mapr 1), (7, .mapr 2), (8, .vec 3 ((sortS (List.map fst (mrgK fst (o1) (o26)))).length) 1), (11, .vec 5 s.2.length 4), (37, .vec 4 r129.1.length 1), (38, .int .i64 (↑r129.1.length : Int)), (39, .int .i64 (↑s.1 : Int))] [(bM .s (List.map mTC o1)), (bM .s (List.map mTC o26)), (bM .s (List.map mTC (mrgK fst (o1) (o26)))), (bV (fl e_str (sortS (List.map fst (mrgK fst (o1) (o26))))) 9), (bV (fl e_i64 r129.1) 3), (bV (fl TF.enc s.2) 39)]
def aULocate_L131_X (o1 : (List ((List UInt8) × TC))) (o26 : (List ((List UInt8) × TC))) (r129 : ((List Int) × Int)) : (List TF) → AEx := fun o => (.exit 0)
def aULocate_L131_T (o1 : (List ((List UInt8) × TC))) (o26 : (List ((List UInt8) × TC))) (r129 : ((List Int) × Int)) : (List TF) → List (Nat × AV) := fun o => [(11, .vec 5 o.length 4)]
def aULocate_L131_B (o1 : (List ((List UInt8) × TC))) (o26 : (List ((List UInt8) × TC))) (r129 : ((List Int) × Int)) : (List TF) → List Blk := fun o => [(bM .s (List.map mTC o1)), (bM .s (List.map mTC o26)), (bM .s (List.map mTC (mrgK fst (o1) (o26)))), (bV (fl e_str (sortS (List.map fst (mrgK fst (o1) (o26))))) 9), (bV (fl e_i64 r129.1) 3), (bV (fl TF.enc o) 39)]
def aULocate_L131_E (o1 : (List ((List UInt8) × TC))) (o26 : (List ((List UInt8) × TC))) (r129 : ((List Int) × Int)) (q : (List TF)) : St := S 67 (aULocate_L131_T o1 o26 r129 q) (aULocate_L131_B o1 o26 r129 q)
theorem aULocate_L131_does (o1 : (List ((List UInt8) × TC))) (o26 : (List ((List UInt8) × TC))) (r129 : ((List Int) × Int)) {s : (Nat × (List TF))} {r : (List TF)} (h : lp (aULocate_L131_step o1 o26 r129) s = some r) : Does Tryz.prog G0 5 (.loop (bodyAt Tryz.prog 16 [1, 1, 1, 1, 1, 1, 1, 0, 1, 0, 0])) (aULocate_L131_H o1 o26 r129 s) (aULocate_L131_X o1 o26 r129 r) (aULocate_L131_E o1 o26 r129 r) := by
 refine Does.lp (H := aULocate_L131_H o1 o26 r129) (X := aULocate_L131_X o1 o26 r129) (E := aULocate_L131_E o1 o26 r129) (fun s s2 h => ?_) (fun s r h => ?_) h
 ·obtain ⟨k39, b20⟩ := s
  unfold aULocate_L131_step at h
  try dsimp only at h
  rcases itS h with ⟨c179, h⟩ | ⟨c179, h⟩
  ·obtain ⟨x180, h181, h⟩ := bnS h
   obtain ⟨h182, h⟩ := gdS h
   obtain ⟨x183, h184, h⟩ := bnS h
   let f34 : List CH := (oa :: bt :: (.op none (.i k39)) :: (vI x180) :: (cs 3 ((.op none (.i x180.toNat)) :: (.op none (.v [.str x183])) :: (cs 5 []))))
   have g35 := k2 (dT c179) (k2 (ir h181) (k2 (s_i64 h181) (k2 (ix h182 h184) (ok1 (s_str h184)))))
   rcases itS h with ⟨c185, h⟩ | ⟨c185, h⟩
   ·obtain ⟨q186, h187, h⟩ := bnS h
    obtain ⟨r188, h189, h⟩ := bnS h
    let f36 : List CH := ((.op none (.v [.agg (TC.enc q186.2)])) :: oc :: (.ret none [.any] (.int .i64 r188) []) :: (cs 2 []))
    rcases itS h with ⟨c190, h⟩ | ⟨c190, h⟩
    ·obtain ⟨q191, h192, h⟩ := bnS h
     let f37 : List CH := ((.op none (.v [.agg (TC.enc q191.2)])) :: (cs 3 []))
     have g38 := k2 ((lookK_some mTC_key (k := x183) (mTC_at _) h187) : lookE (List.map mTC (mrgK fst (o1) (o26))) (.str x183) = some (.agg (TC.enc q186.2))) (k2 (clock_Day_ret q186.2.Time r188 h189) (ok1 ((lookK_some mTC_key (k := x183) (mTC_at _) h192) : lookE (List.map mTC o1) (.str x183) = some (.agg (TC.enc q191.2)))))
     rcases itS h with ⟨c193, h⟩ | ⟨c193, h⟩
     ·obtain ⟨q194, h195, h⟩ := bnS h
      obtain ⟨h196, h⟩ := gdS h
      obtain ⟨h197, h⟩ := gdS h
      obtain rfl := oL h
      exact Does.of_viewM 5 400 (f34 ++ (f36 ++ (f37 ++ ((.op none (.v [.agg (TC.enc q194.2)])) :: (cs 3 [.op none (.ap 4), .trp (.eqc 7 (fl TF.enc (b20 ++ [(⟨x183, r188, q191.2.Cents, q194.2.Cents⟩ : TF)]))), .trp (.eqt (.t 64) (.vec 7 ((b20 ++ [(⟨x183, r188, q191.2.Cents, q194.2.Cents⟩ : TF)]).length) 4)), oc, ow, oc]))))) [0, 1, 2, 3, 4, 7] (by kernel_rfl) (by kernel_rfl) (aO g35 (aO g38 (k2 ((lookK_some mTC_key (k := x183) (mTC_at _) h195) : lookE (List.map mTC o26) (.str x183) = some (.agg (TC.enc q194.2))) (k2 ((nB rfl) : 0 + 4 ≤ List.length ([.str x183, jI r188, jI q191.2.Cents, jI q194.2.Cents] : List AV)) (k2 ((fl_length (f := TF.enc) (z := 4) (fun _ => rfl) _) : List.length ((fl TF.enc b20) : List AV) = (b20.length * 4)) (k2 (rfl : List.all ([.str x183, jI r188, jI q191.2.Cents, jI q194.2.Cents] : List AV) AV.one = true) (k2 h196 (k2 ((fl_snoc rfl) : (fl TF.enc b20) ++ [.str x183, jI r188, jI q191.2.Cents, jI q194.2.Cents] = (fl TF.enc (b20 ++ [(⟨x183, r188, q191.2.Cents, q194.2.Cents⟩ : TF)]))) (k2 ((by simp <;> omega) : (.vec 7 (b20.length + 1) 4 : AV) = .vec 7 ((b20 ++ [(⟨x183, r188, q191.2.Cents, q194.2.Cents⟩ : TF)]).length) 4) (k2 (⟨rfl, trivial⟩ : (some (Ob.blk (bT [.str x183, jI r188, jI q191.2.Cents, jI q194.2.Cents] 39)) = some (Ob.blk (bT [.str x183, jI r188, jI q191.2.Cents, jI q194.2.Cents] 39))) ∧ True) (ok1 h197)))))))))))
     ·obtain ⟨h198, h⟩ := gdS h
      obtain ⟨h199, h⟩ := gdS h
      obtain rfl := oL h
      exact Does.of_viewM 5 400 (f34 ++ (f36 ++ (f37 ++ ((.op none (.b false)) :: (cs 3 [.op none (.ap 4), .trp (.eqc 7 (fl TF.enc (b20 ++ [(⟨x183, r188, q191.2.Cents, 0⟩ : TF)]))), .trp (.eqt (.t 64) (.vec 7 ((b20 ++ [(⟨x183, r188, q191.2.Cents, 0⟩ : TF)]).length) 4)), oc, ow, oc]))))) [0, 1, 2, 3, 4, 7] (by kernel_rfl) (by kernel_rfl) (aO g35 (aO g38 (k2 ((lookK_none mTC_key (k := x183) (mTC_at _) (getK_no c193)) : lookE (List.map mTC o26) (.str x183) = none) (k2 ((nB rfl) : 0 + 4 ≤ List.length ([.str x183, jI r188, jI q191.2.Cents, jI 0] : List AV)) (k2 ((fl_length (f := TF.enc) (z := 4) (fun _ => rfl) _) : List.length ((fl TF.enc b20) : List AV) = (b20.length * 4)) (k2 (rfl : List.all ([.str x183, jI r188, jI q191.2.Cents, jI 0] : List AV) AV.one = true) (k2 h198 (k2 ((fl_snoc rfl) : (fl TF.enc b20) ++ [.str x183, jI r188, jI q191.2.Cents, jI 0] = (fl TF.enc (b20 ++ [(⟨x183, r188, q191.2.Cents, 0⟩ : TF)]))) (k2 ((by simp <;> omega) : (.vec 7 (b20.length + 1) 4 : AV) = .vec 7 ((b20 ++ [(⟨x183, r188, q191.2.Cents, 0⟩ : TF)]).length) 4) (k2 (⟨rfl, trivial⟩ : (some (Ob.blk (bT [.str x183, jI r188, jI q191.2.Cents, jI 0] 39)) = some (Ob.blk (bT [.str x183, jI r188, jI q191.2.Cents, jI 0] 39))) ∧ True) (ok1 h199)))))))))))
    ·let f39 : List CH := ((.op none (.b false)) :: (cs 3 []))
     have g40 := k2 ((lookK_some mTC_key (k := x183) (mTC_at _) h187) : lookE (List.map mTC (mrgK fst (o1) (o26))) (.str x183) = some (.agg (TC.enc q186.2))) (k2 (clock_Day_ret q186.2.Time r188 h189) (ok1 ((lookK_none mTC_key (k := x183) (mTC_at _) (getK_no c190)) : lookE (List.map mTC o1) (.str x183) = none)))
     rcases itS h with ⟨c200, h⟩ | ⟨c200, h⟩
     ·obtain ⟨q201, h202, h⟩ := bnS h
      obtain ⟨h203, h⟩ := gdS h
      obtain ⟨h204, h⟩ := gdS h
      obtain rfl := oL h
      exact Does.of_viewM 5 400 (f34 ++ (f36 ++ (f39 ++ ((.op none (.v [.agg (TC.enc q201.2)])) :: (cs 3 [.op none (.ap 4), .trp (.eqc 7 (fl TF.enc (b20 ++ [(⟨x183, r188, 0, q201.2.Cents⟩ : TF)]))), .trp (.eqt (.t 64) (.vec 7 ((b20 ++ [(⟨x183, r188, 0, q201.2.Cents⟩ : TF)]).length) 4)), oc, ow, oc]))))) [0, 1, 2, 3, 4, 7] (by kernel_rfl) (by kernel_rfl) (aO g35 (aO g40 (k2 ((lookK_some mTC_key (k := x183) (mTC_at _) h202) : lookE (List.map mTC o26) (.str x183) = some (.agg (TC.enc q201.2))) (k2 ((nB rfl) : 0 + 4 ≤ List.length ([.str x183, jI r188, jI 0, jI q201.2.Cents] : List AV)) (k2 ((fl_length (f := TF.enc) (z := 4) (fun _ => rfl) _) : List.length ((fl TF.enc b20) : List AV) = (b20.length * 4)) (k2 (rfl : List.all ([.str x183, jI r188, jI 0, jI q201.2.Cents] : List AV) AV.one = true) (k2 h203 (k2 ((fl_snoc rfl) : (fl TF.enc b20) ++ [.str x183, jI r188, jI 0, jI q201.2.Cents] = (fl TF.enc (b20 ++ [(⟨x183, r188, 0, q201.2.Cents⟩ : TF)]))) (k2 ((by simp <;> omega) : (.vec 7 (b20.length + 1) 4 : AV) = .vec 7 ((b20 ++ [(⟨x183, r188, 0, q201.2.Cents⟩ : TF)]).length) 4) (k2 (⟨rfl, trivial⟩ : (some (Ob.blk (bT [.str x183, jI r188, jI 0, jI q201.2.Cents] 39)) = some (Ob.blk (bT [.str x183, jI r188, jI 0, jI q201.2.Cents] 39))) ∧ True) (ok1 h204)))))))))))
     ·obtain ⟨h205, h⟩ := gdS h
      obtain ⟨h206, h⟩ := gdS h
      obtain rfl := oL h
      exact Does.of_viewM 5 400 (f34 ++ (f36 ++ (f39 ++ ((.op none (.b false)) :: (cs 3 [.op none (.ap 4), .trp (.eqc 7 (fl TF.enc (b20 ++ [(⟨x183, r188, 0, 0⟩ : TF)]))), .trp (.eqt (.t 64) (.vec 7 ((b20 ++ [(⟨x183, r188, 0, 0⟩ : TF)]).length) 4)), oc, ow, oc]))))) [0, 1, 2, 3, 4, 7] (by kernel_rfl) (by kernel_rfl) (aO g35 (aO g40 (k2 ((lookK_none mTC_key (k := x183) (mTC_at _) (getK_no c200)) : lookE (List.map mTC o26) (.str x183) = none) (k2 ((nB rfl) : 0 + 4 ≤ List.length ([.str x183, jI r188, jI 0, jI 0] : List AV)) (k2 ((fl_length (f := TF.enc) (z := 4) (fun _ => rfl) _) : List.length ((fl TF.enc b20) : List AV) = (b20.length * 4)) (k2 (rfl : List.all ([.str x183, jI r188, jI 0, jI 0] : List AV) AV.one = true) (k2 h205 (k2 ((fl_snoc rfl) : (fl TF.enc b20) ++ [.str x183, jI r188, jI 0, jI 0] = (fl TF.enc (b20 ++ [(⟨x183, r188, 0, 0⟩ : TF)]))) (k2 ((by simp <;> omega) : (.vec 7 (b20.length + 1) 4 : AV) = .vec 7 ((b20 ++ [(⟨x183, r188, 0, 0⟩ : TF)]).length) 4) (k2 (⟨rfl, trivial⟩ : (some (Ob.blk (bT [.str x183, jI r188, jI 0, jI 0] 39)) = some (Ob.blk (bT [.str x183, jI r188, jI 0, jI 0] 39))) ∧ True) (ok1 h206)))))))))))
   ·obtain ⟨r207, h208, h⟩ := bnS h
    let f41 : List CH := ((.op none (.b false)) :: oc :: (.ret none [.any] (.int .i64 r207) []) :: (cs 2 []))
    rcases itS h with ⟨c209, h⟩ | ⟨c209, h⟩
    ·obtain ⟨q210, h211, h⟩ := bnS h
     let f42 : List CH := ((.op none (.v [.agg (TC.enc q210.2)])) :: (cs 3 []))
     have g43 := k2 ((lookK_none mTC_key (k := x183) (mTC_at _) (getK_no c185)) : lookE (List.map mTC (mrgK fst (o1) (o26))) (.str x183) = none) (k2 (clock_Day_ret 0 r207 h208) (ok1 ((lookK_some mTC_key (k := x183) (mTC_at _) h211) : lookE (List.map mTC o1) (.str x183) = some (.agg (TC.enc q210.2)))))
     rcases itS h with ⟨c212, h⟩ | ⟨c212, h⟩
     ·obtain ⟨q213, h214, h⟩ := bnS h
      obtain ⟨h215, h⟩ := gdS h
      obtain ⟨h216, h⟩ := gdS h
      obtain rfl := oL h
      exact Does.of_viewM 5 400 (f34 ++ (f41 ++ (f42 ++ ((.op none (.v [.agg (TC.enc q213.2)])) :: (cs 3 [.op none (.ap 4), .trp (.eqc 7 (fl TF.enc (b20 ++ [(⟨x183, r207, q210.2.Cents, q213.2.Cents⟩ : TF)]))), .trp (.eqt (.t 64) (.vec 7 ((b20 ++ [(⟨x183, r207, q210.2.Cents, q213.2.Cents⟩ : TF)]).length) 4)), oc, ow, oc]))))) [0, 1, 2, 3, 4, 7] (by kernel_rfl) (by kernel_rfl) (aO g35 (aO g43 (k2 ((lookK_some mTC_key (k := x183) (mTC_at _) h214) : lookE (List.map mTC o26) (.str x183) = some (.agg (TC.enc q213.2))) (k2 ((nB rfl) : 0 + 4 ≤ List.length ([.str x183, jI r207, jI q210.2.Cents, jI q213.2.Cents] : List AV)) (k2 ((fl_length (f := TF.enc) (z := 4) (fun _ => rfl) _) : List.length ((fl TF.enc b20) : List AV) = (b20.length * 4)) (k2 (rfl : List.all ([.str x183, jI r207, jI q210.2.Cents, jI q213.2.Cents] : List AV) AV.one = true) (k2 h215 (k2 ((fl_snoc rfl) : (fl TF.enc b20) ++ [.str x183, jI r207, jI q210.2.Cents, jI q213.2.Cents] = (fl TF.enc (b20 ++ [(⟨x183, r207, q210.2.Cents, q213.2.Cents⟩ : TF)]))) (k2 ((by simp <;> omega) : (.vec 7 (b20.length + 1) 4 : AV) = .vec 7 ((b20 ++ [(⟨x183, r207, q210.2.Cents, q213.2.Cents⟩ : TF)]).length) 4) (k2 (⟨rfl, trivial⟩ : (some (Ob.blk (bT [.str x183, jI r207, jI q210.2.Cents, jI q213.2.Cents] 39)) = some (Ob.blk (bT [.str x183, jI r207, jI q210.2.Cents, jI q213.2.Cents] 39))) ∧ True) (ok1 h216)))))))))))
     ·obtain ⟨h217, h⟩ := gdS h
      obtain ⟨h218, h⟩ := gdS h
      obtain rfl := oL h
      exact Does.of_viewM 5 400 (f34 ++ (f41 ++ (f42 ++ ((.op none (.b false)) :: (cs 3 [.op none (.ap 4), .trp (.eqc 7 (fl TF.enc (b20 ++ [(⟨x183, r207, q210.2.Cents, 0⟩ : TF)]))), .trp (.eqt (.t 64) (.vec 7 ((b20 ++ [(⟨x183, r207, q210.2.Cents, 0⟩ : TF)]).length) 4)), oc, ow, oc]))))) [0, 1, 2, 3, 4, 7] (by kernel_rfl) (by kernel_rfl) (aO g35 (aO g43 (k2 ((lookK_none mTC_key (k := x183) (mTC_at _) (getK_no c212)) : lookE (List.map mTC o26) (.str x183) = none) (k2 ((nB rfl) : 0 + 4 ≤ List.length ([.str x183, jI r207, jI q210.2.Cents, jI 0] : List AV)) (k2 ((fl_length (f := TF.enc) (z := 4) (fun _ => rfl) _) : List.length ((fl TF.enc b20) : List AV) = (b20.length * 4)) (k2 (rfl : List.all ([.str x183, jI r207, jI q210.2.Cents, jI 0] : List AV) AV.one = true) (k2 h217 (k2 ((fl_snoc rfl) : (fl TF.enc b20) ++ [.str x183, jI r207, jI q210.2.Cents, jI 0] = (fl TF.enc (b20 ++ [(⟨x183, r207, q210.2.Cents, 0⟩ : TF)]))) (k2 ((by simp <;> omega) : (.vec 7 (b20.length + 1) 4 : AV) = .vec 7 ((b20 ++ [(⟨x183, r207, q210.2.Cents, 0⟩ : TF)]).length) 4) (k2 (⟨rfl, trivial⟩ : (some (Ob.blk (bT [.str x183, jI r207, jI q210.2.Cents, jI 0] 39)) = some (Ob.blk (bT [.str x183, jI r207, jI q210.2.Cents, jI 0] 39))) ∧ True) (ok1 h218)))))))))))
    ·let f44 : List CH := ((.op none (.b false)) :: (cs 3 []))
     have g45 := k2 ((lookK_none mTC_key (k := x183) (mTC_at _) (getK_no c185)) : lookE (List.map mTC (mrgK fst (o1) (o26))) (.str x183) = none) (k2 (clock_Day_ret 0 r207 h208) (ok1 ((lookK_none mTC_key (k := x183) (mTC_at _) (getK_no c209)) : lookE (List.map mTC o1) (.str x183) = none)))
     rcases itS h with ⟨c219, h⟩ | ⟨c219, h⟩
     ·obtain ⟨q220, h221, h⟩ := bnS h
      obtain ⟨h222, h⟩ := gdS h
      obtain ⟨h223, h⟩ := gdS h
      obtain rfl := oL h
      exact Does.of_viewM 5 400 (f34 ++ (f41 ++ (f44 ++ ((.op none (.v [.agg (TC.enc q220.2)])) :: (cs 3 [.op none (.ap 4), .trp (.eqc 7 (fl TF.enc (b20 ++ [(⟨x183, r207, 0, q220.2.Cents⟩ : TF)]))), .trp (.eqt (.t 64) (.vec 7 ((b20 ++ [(⟨x183, r207, 0, q220.2.Cents⟩ : TF)]).length) 4)), oc, ow, oc]))))) [0, 1, 2, 3, 4, 7] (by kernel_rfl) (by kernel_rfl) (aO g35 (aO g45 (k2 ((lookK_some mTC_key (k := x183) (mTC_at _) h221) : lookE (List.map mTC o26) (.str x183) = some (.agg (TC.enc q220.2))) (k2 ((nB rfl) : 0 + 4 ≤ List.length ([.str x183, jI r207, jI 0, jI q220.2.Cents] : List AV)) (k2 ((fl_length (f := TF.enc) (z := 4) (fun _ => rfl) _) : List.length ((fl TF.enc b20) : List AV) = (b20.length * 4)) (k2 (rfl : List.all ([.str x183, jI r207, jI 0, jI q220.2.Cents] : List AV) AV.one = true) (k2 h222 (k2 ((fl_snoc rfl) : (fl TF.enc b20) ++ [.str x183, jI r207, jI 0, jI q220.2.Cents] = (fl TF.enc (b20 ++ [(⟨x183, r207, 0, q220.2.Cents⟩ : TF)]))) (k2 ((by simp <;> omega) : (.vec 7 (b20.length + 1) 4 : AV) = .vec 7 ((b20 ++ [(⟨x183, r207, 0, q220.2.Cents⟩ : TF)]).length) 4) (k2 (⟨rfl, trivial⟩ : (some (Ob.blk (bT [.str x183, jI r207, jI 0, jI q220.2.Cents] 39)) = some (Ob.blk (bT [.str x183, jI r207, jI 0, jI q220.2.Cents] 39))) ∧ True) (ok1 h223)))))))))))
     ·obtain ⟨h224, h⟩ := gdS h
      obtain ⟨h225, h⟩ := gdS h
      obtain rfl := oL h
      exact Does.of_viewM 5 400 (f34 ++ (f41 ++ (f44 ++ ((.op none (.b false)) :: (cs 3 [.op none (.ap 4), .trp (.eqc 7 (fl TF.enc (b20 ++ [(⟨x183, r207, 0, 0⟩ : TF)]))), .trp (.eqt (.t 64) (.vec 7 ((b20 ++ [(⟨x183, r207, 0, 0⟩ : TF)]).length) 4)), oc, ow, oc]))))) [0, 1, 2, 3, 4, 7] (by kernel_rfl) (by kernel_rfl) (aO g35 (aO g45 (k2 ((lookK_none mTC_key (k := x183) (mTC_at _) (getK_no c219)) : lookE (List.map mTC o26) (.str x183) = none) (k2 ((nB rfl) : 0 + 4 ≤ List.length ([.str x183, jI r207, jI 0, jI 0] : List AV)) (k2 ((fl_length (f := TF.enc) (z := 4) (fun _ => rfl) _) : List.length ((fl TF.enc b20) : List AV) = (b20.length * 4)) (k2 (rfl : List.all ([.str x183, jI r207, jI 0, jI 0] : List AV) AV.one = true) (k2 h224 (k2 ((fl_snoc rfl) : (fl TF.enc b20) ++ [.str x183, jI r207, jI 0, jI 0] = (fl TF.enc (b20 ++ [(⟨x183, r207, 0, 0⟩ : TF)]))) (k2 ((by simp <;> omega) : (.vec 7 (b20.length + 1) 4 : AV) = .vec 7 ((b20 ++ [(⟨x183, r207, 0, 0⟩ : TF)]).length) 4) (k2 (⟨rfl, trivial⟩ : (some (Ob.blk (bT [.str x183, jI r207, jI 0, jI 0] 39)) = some (Ob.blk (bT [.str x183, jI r207, jI 0, jI 0] 39))) ∧ True) (ok1 h225)))))))))))
  ·simp at h
 ·obtain ⟨k39, b20⟩ := s
  unfold aULocate_L131_step at h
  try dsimp only at h
  rcases itS h with ⟨c179, h⟩ | ⟨c179, h⟩
  ·obtain ⟨x180, h181, h⟩ := bnS h
   obtain ⟨h182, h⟩ := gdS h
   obtain ⟨x183, h184, h⟩ := bnS h
   rcases itS h with ⟨c185, h⟩ | ⟨c185, h⟩
   ·obtain ⟨q186, h187, h⟩ := bnS h
    obtain ⟨r188, h189, h⟩ := bnS h
    rcases itS h with ⟨c190, h⟩ | ⟨c190, h⟩
    ·obtain ⟨q191, h192, h⟩ := bnS h
     rcases itS h with ⟨c193, h⟩ | ⟨c193, h⟩
     ·obtain ⟨q194, h195, h⟩ := bnS h
      obtain ⟨h196, h⟩ := gdS h
      obtain ⟨h197, h⟩ := gdS h
      simp at h
     ·obtain ⟨h198, h⟩ := gdS h
      obtain ⟨h199, h⟩ := gdS h
      simp at h
    ·rcases itS h with ⟨c200, h⟩ | ⟨c200, h⟩
     ·obtain ⟨q201, h202, h⟩ := bnS h
      obtain ⟨h203, h⟩ := gdS h
      obtain ⟨h204, h⟩ := gdS h
      simp at h
     ·obtain ⟨h205, h⟩ := gdS h
      obtain ⟨h206, h⟩ := gdS h
      simp at h
   ·obtain ⟨r207, h208, h⟩ := bnS h
    rcases itS h with ⟨c209, h⟩ | ⟨c209, h⟩
    ·obtain ⟨q210, h211, h⟩ := bnS h
     rcases itS h with ⟨c212, h⟩ | ⟨c212, h⟩
     ·obtain ⟨q213, h214, h⟩ := bnS h
      obtain ⟨h215, h⟩ := gdS h
      obtain ⟨h216, h⟩ := gdS h
      simp at h
     ·obtain ⟨h217, h⟩ := gdS h
      obtain ⟨h218, h⟩ := gdS h
      simp at h
    ·rcases itS h with ⟨c219, h⟩ | ⟨c219, h⟩
     ·obtain ⟨q220, h221, h⟩ := bnS h
      obtain ⟨h222, h⟩ := gdS h
      obtain ⟨h223, h⟩ := gdS h
      simp at h
     ·obtain ⟨h224, h⟩ := gdS h
      obtain ⟨h225, h⟩ := gdS h
      simp at h
  ·obtain rfl := oR h
   exact ⟨Does.of_viewM 5 400 [oa, .br false] [0, 1, 2, 3, 4, 5] (by kernel_rfl) (by kernel_rfl) (ok1 (dF c179)), by intro q; cases q⟩
def aULocate (have_0 : (List TC)) (want_1 : (List TC)) : Option (List TF) :=
 (lp (aULocate_L1_step have_0) ((0 : Nat), ([] : List ((List UInt8) × TC)))).bind fun o1 =>
 (lp (aULocate_L26_step want_1) ((0 : Nat), ([] : List ((List UInt8) × TC)))).bind fun o26 =>
 if SkS (List.map fst (mrgK fst (o1) (o26))) then
  if ((sortS (List.map fst (mrgK fst (o1) (o26)))).length) ≤ 4294967296 then
   (lp (aULocate_L53_step o1 o26) ((0 : Nat), (List.replicate ((sortS (List.map fst (mrgK fst (o1) (o26)))).length) (0 : Int)))).bind fun o53 =>
   (lp (aULocate_L91_step o1 o26) ((0 : Nat), (List.replicate ((sortS (List.map fst (mrgK fst (o1) (o26)))).length) (0 : Int)))).bind fun o91 =>
   (dGDiffer o53 o91).bind fun r129 =>
   (lp (aULocate_L131_step o1 o26 r129) ((0 : Nat), ([] : (List TF)))).bind fun o131 =>
   some o131
  else none
 else none
theorem aULocate_ret (have_0 : (List TC)) (want_1 : (List TC)) (r : (List TF)) (h : aULocate have_0 want_1 = some r) : Ret Tryz.prog G0 16 [.lst (fl TC.enc have_0) have_0.length, .lst (fl TC.enc want_1) want_1.length] (.vec 0 r.length 4) [(bV (fl TF.enc r) 39)] := by
 unfold aULocate at h
 obtain ⟨o1, hl1, h⟩ := bnS h
 obtain ⟨o26, hl26, h⟩ := bnS h
 obtain ⟨h51, h⟩ := gdS h
 obtain ⟨h52, h⟩ := gdS h
 obtain ⟨o53, hl53, h⟩ := bnS h
 obtain ⟨o91, hl91, h⟩ := bnS h
 obtain ⟨r129, h130, h⟩ := bnS h
 obtain ⟨o131, hl131, h⟩ := bnS h
 obtain rfl := oI h
 exact Ret.of_view 400 (cs 9 ((.fcut 1 (.exit 0) [(3, .mapr 0)] (aULocate_L1_B have_0 o1) [0] [(3, .any), (9, .any), (10, .any), (11, jI (↑(0 : Nat) : Int))] [bS]) :: (cs 10 ((.fcut 1 (.exit 0) [(3, .mapr 0)] (aULocate_L26_B want_1 o26) [2] [(3, .any), (9, .any), (10, .any), (11, jI (↑(0 : Nat) : Int))] [bS]) :: (cs 9 (bf :: (cs 9 ((.spec (fspec 2 [4, 2] [.mapr 0, .mapr 1] [(bM .s (List.map mTC o1)), (bM .s (List.map mTC o26))] (.tup []) [(bM .s (List.map mTC (mrgK fst (o1) (o26)))), (bM .s (List.map mTC o26))])) :: (cs 7 ((.spec (fspec 2 [7, 4] [.fn (.func 60) [] [.ptr 0 0]] [(bF [.mapr 1] 96), (bM .s (List.map mTC (mrgK fst (o1) (o26))))] (.vec 2 ((sortS (List.map fst (mrgK fst (o1) (o26)))).length) 1) [(bF [.mapr 1] 96), (bM .s (List.map mTC (mrgK fst (o1) (o26)))), (bV (fl e_str (sortS (List.map fst (mrgK fst (o1) (o26))))) 9)])) :: (cs 7 ((.op none (.m ((sortS (List.map fst (mrgK fst (o1) (o26)))).length) ((sortS (List.map fst (mrgK fst (o1) (o26)))).length))) :: (.tr (.eqc 11 (fl e_u64 (List.replicate ((sortS (List.map fst (mrgK fst (o1) (o26)))).length) (0 : Int))))) :: (cs 4 ((.tr (.wid (.t 5))) :: (.fcut 3 (.exit 0) [(5, .vec 1 o53.length 1)] (aULocate_L53_B o1 o26 o53) [0, 11, 10] [(0, .any), (5, .vec 1 ((List.replicate ((sortS (List.map fst (mrgK fst (o1) (o26)))).length) (0 : Int)).length) 1), (13, .vec 2 ((sortS (List.map fst (mrgK fst (o1) (o26)))).length) 1), (14, .any), (15, jI (↑(0 : Nat) : Int))] [bS, bS, bS]) :: (cs 8 ((.op none (.m ((sortS (List.map fst (mrgK fst (o1) (o26)))).length) ((sortS (List.map fst (mrgK fst (o1) (o26)))).length))) :: (.tr (.eqc 15 (fl e_u64 (List.replicate ((sortS (List.map fst (mrgK fst (o1) (o26)))).length) (0 : Int))))) :: (cs 4 ((.tr (.wid (.t 5))) :: (.fcut 3 (.exit 0) [(5, .vec 1 o91.length 1)] (aULocate_L91_B o1 o26 o91) [2, 15, 10] [(0, .any), (5, .vec 1 ((List.replicate ((sortS (List.map fst (mrgK fst (o1) (o26)))).length) (0 : Int)).length) 1), (13, .vec 2 ((sortS (List.map fst (mrgK fst (o1) (o26)))).length) 1), (14, .any), (15, jI (↑(0 : Nat) : Int))] [bS, bS, bS]) :: (cs 2 ((.ret none [.lst (fl e_u64 o53) o53.length, .lst (fl e_u64 o91) o91.length] (.tup [.vec 0 r129.1.length 1, jI r129.2]) [(bV (fl e_i64 r129.1) 3)]) :: (cs 9 ((.tr (.vec (.t 11) 4 39)) :: (.fcut 5 (.exit 0) [(11, .vec 5 o131.length 4)] (aULocate_L131_B o1 o26 r129 o131) [0, 2, 4, 10, 19, 20] [(5, .any), (6, .any), (7, .any), (8, .vec 3 ((sortS (List.map fst (mrgK fst (o1) (o26)))).length) 1), (11, .vec 5 (([] : (List TF)).length) 4), (37, .vec 4 r129.1.length 1), (38, .any), (39, jI (↑(0 : Nat) : Int))] [bS, bS, bS, bS, bS, (bV (fl TF.enc ([] : (List TF))) 39)]) :: (cs 2 []))))))))))))))))))))))) [26] (by kernel_rfl) (by kernel_rfl) (k2 (rfl : (jI 0 : AV) = jI (↑(0 : Nat) : Int)) (k2 (aULocate_L1_does have_0 (s := ((0 : Nat), ([] : List ((List UInt8) × TC)))) (r := o1) hl1) (k2 (rfl : (jI 0 : AV) = jI (↑(0 : Nat) : Int)) (k2 (aULocate_L26_does want_1 (s := ((0 : Nat), ([] : List ((List UInt8) × TC)))) (r := o26) hl26) (k2 (rfl : false = false) (k2 ((fspec_ok _ (mcpS_calls (o1) (o26))) : SpecOk Tryz.prog G0 32 (fspec 2 [4, 2] [.mapr 0, .mapr 1] [(bM .s (List.map mTC o1)), (bM .s (List.map mTC o26))] (.tup []) [(bM .s (List.map mTC (mrgK fst (o1) (o26)))), (bM .s (List.map mTC o26))])) (k2 (⟨rfl, rfl, rfl, trivial⟩ : (([.mapr 4, .mapr 2] : List AV) = [.mapr 4, .mapr 2]) ∧ (some (Ob.map .s (List.map mTC o1)) = some (Ob.map .s (List.map mTC o1))) ∧ (some (Ob.map .s (List.map mTC o26)) = some (Ob.map .s (List.map mTC o26))) ∧ True) (k2 ((fspec_ok _ (sortedS_calls (mrgK fst (o1) (o26)) h51)) : SpecOk Tryz.prog G0 33 (fspec 2 [7, 4] [.fn (.func 60) [] [.ptr 0 0]] [(bF [.mapr 1] 96), (bM .s (List.map mTC (mrgK fst (o1) (o26))))] (.vec 2 ((sortS (List.map fst (mrgK fst (o1) (o26)))).length) 1) [(bF [.mapr 1] 96), (bM .s (List.map mTC (mrgK fst (o1) (o26)))), (bV (fl e_str (sortS (List.map fst (mrgK fst (o1) (o26))))) 9)])) (k2 (⟨rfl, rfl, rfl, trivial⟩ : (([.fn (.func 60) [] [.ptr 7 0]] : List AV) = [.fn (.func 60) [] [.ptr 7 0]]) ∧ (some (Ob.blk (bF [.mapr 4] 96)) = some (Ob.blk (bF [.mapr 4] 96))) ∧ (some (Ob.map .s (List.map mTC (mrgK fst (o1) (o26)))) = some (Ob.map .s (List.map mTC (mrgK fst (o1) (o26))))) ∧ True) (k2 (rfl : (↑((sortS (List.map fst (mrgK fst (o1) (o26)))).length) : Int) = ((((sortS (List.map fst (mrgK fst (o1) (o26)))).length) : Nat) : Int)) (k2 (rfl : (↑((sortS (List.map fst (mrgK fst (o1) (o26)))).length) : Int) = ((((sortS (List.map fst (mrgK fst (o1) (o26)))).length) : Nat) : Int)) (k2 ((Nat.le_refl _) : ((sortS (List.map fst (mrgK fst (o1) (o26)))).length) ≤ ((sortS (List.map fst (mrgK fst (o1) (o26)))).length)) (k2 h52 (k2 ((zeros_fl (f := e_u64) (x := (0 : Int)) rfl _) : zeros [.int .u64 0] ((sortS (List.map fst (mrgK fst (o1) (o26)))).length) = (fl e_u64 (List.replicate ((sortS (List.map fst (mrgK fst (o1) (o26)))).length) (0 : Int)))) (k2 ((Nat.le_refl _) : ((sortS (List.map fst (mrgK fst (o1) (o26)))).length) ≤ ((sortS (List.map fst (mrgK fst (o1) (o26)))).length)) (k2 ((by first | rfl | simp only [List.length_replicate, List.length_set]) : (.vec 11 ((sortS (List.map fst (mrgK fst (o1) (o26)))).length) 1 : AV) = .vec 11 ((List.replicate ((sortS (List.map fst (mrgK fst (o1) (o26)))).length) (0 : Int)).length) 1) (k2 ((by first | rfl | simp only [List.length_replicate, List.length_set]) : (.vec 10 ((sortS (List.map fst (mrgK fst (o1) (o26)))).length) 1 : AV) = .vec 10 ((sortS (List.map fst (mrgK fst (o1) (o26)))).length) 1) (k2 (rfl : (jI 0 : AV) = jI (↑(0 : Nat) : Int)) (k2 (aULocate_L53_does o1 o26 (s := ((0 : Nat), (List.replicate ((sortS (List.map fst (mrgK fst (o1) (o26)))).length) (0 : Int)))) (r := o53) hl53) (k2 (rfl : (↑((sortS (List.map fst (mrgK fst (o1) (o26)))).length) : Int) = ((((sortS (List.map fst (mrgK fst (o1) (o26)))).length) : Nat) : Int)) (k2 (rfl : (↑((sortS (List.map fst (mrgK fst (o1) (o26)))).length) : Int) = ((((sortS (List.map fst (mrgK fst (o1) (o26)))).length) : Nat) : Int)) (k2 ((Nat.le_refl _) : ((sortS (List.map fst (mrgK fst (o1) (o26)))).length) ≤ ((sortS (List.map fst (mrgK fst (o1) (o26)))).length)) (k2 h52 (k2 ((zeros_fl (f := e_u64) (x := (0 : Int)) rfl _) : zeros [.int .u64 0] ((sortS (List.map fst (mrgK fst (o1) (o26)))).length) = (fl e_u64 (List.replicate ((sortS (List.map fst (mrgK fst (o1) (o26)))).length) (0 : Int)))) (k2 ((Nat.le_refl _) : ((sortS (List.map fst (mrgK fst (o1) (o26)))).length) ≤ ((sortS (List.map fst (mrgK fst (o1) (o26)))).length)) (k2 ((by first | rfl | simp only [List.length_replicate, List.length_set]) : (.vec 15 ((sortS (List.map fst (mrgK fst (o1) (o26)))).length) 1 : AV) = .vec 15 ((List.replicate ((sortS (List.map fst (mrgK fst (o1) (o26)))).length) (0 : Int)).length) 1) (k2 ((by first | rfl | simp only [List.length_replicate, List.length_set]) : (.vec 10 ((sortS (List.map fst (mrgK fst (o1) (o26)))).length) 1 : AV) = .vec 10 ((sortS (List.map fst (mrgK fst (o1) (o26)))).length) 1) (k2 (rfl : (jI 0 : AV) = jI (↑(0 : Nat) : Int)) (k2 (aULocate_L91_does o1 o26 (s := ((0 : Nat), (List.replicate ((sortS (List.map fst (mrgK fst (o1) (o26)))).length) (0 : Int)))) (r := o91) hl91) (k2 (⟨rfl, rfl, (fl_length1 (f := e_u64) (fun _ => rfl) _)⟩ : (fl e_u64 o53) = (fl e_u64 o53) ∧ o53.length = o53.length ∧ List.length ((fl e_u64 o53) : List AV) = o53.length) (k2 (⟨rfl, rfl, (fl_length1 (f := e_u64) (fun _ => rfl) _)⟩ : (fl e_u64 o91) = (fl e_u64 o91) ∧ o91.length = o91.length ∧ List.length ((fl e_u64 o91) : List AV) = o91.length) (k2 (⟨(fl_dat (f := e_i64) (fun _ => rfl)), trivial⟩ : datBlks [(bV (fl e_i64 r129.1) 3)]) (k2 (dGDiffer_ret o53 o91 r129 h130) (k2 ((by first | rfl | simp only [List.length_replicate, List.length_set]) : (.vec 10 ((sortS (List.map fst (mrgK fst (o1) (o26)))).length) 1 : AV) = .vec 10 ((sortS (List.map fst (mrgK fst (o1) (o26)))).length) 1) (k2 ((by first | rfl | simp only [List.length_replicate, List.length_set]) : (.vec 20 0 4 : AV) = .vec 20 (([] : (List TF)).length) 4) (k2 ((by first | rfl | simp only [List.length_replicate, List.length_set]) : (.vec 19 r129.1.length 1 : AV) = .vec 19 r129.1.length 1) (k2 (rfl : (jI 0 : AV) = jI (↑(0 : Nat) : Int)) (k2 (rfl : ((bV [] 39) : Blk) = renB [0, 2, 4, 10, 19, 20] (bV (fl TF.enc ([] : (List TF))) 39)) (ok1 (aULocate_L131_does o1 o26 r129 (s := ((0 : Nat), ([] : (List TF)))) (r := o131) hl131))))))))))))))))))))))))))))))))))))))))
end
end Go.Proofs.YtpadimnchmghpaaGreatDoor.Av
