import Derived.Test.YtpadimnchmghpaaGreatDoorSo3
open Prod (fst)
open Int (tdiv tmod)
set_option maxHeartbeats 4000000
set_option maxRecDepth 100000
set_option linter.unusedVariables false
set_option linter.unusedSimpArgs false
namespace Go.Proofs.YtpadimnchmghpaaGreatDoor.Av
noncomputable section
open Go Go.Proofs
def sPart_L12_step (c : TB) (l : (List Int)) (a : Int) (b : Int) (pv : Int) (x2 : Int) (x5 : Int) : Int → Option (Int ⊕ Int) := fun v12 =>
 if v12 ≤ (b - 1) then
  if (0 : Int) ≤ v12 then
   if v12.toNat < l.length then
    ((List.set (List.set l a.toNat x2) pv.toNat x5)[v12.toNat]?).bind fun x29 =>
    if (0 : Int) ≤ a then
     if a.toNat < l.length then
      ((List.set (List.set l a.toNat x2) pv.toNat x5)[a.toNat]?).bind fun x33 =>
      (cCmp c x29 x33).bind fun r35 =>
      if r35 < (0 : Int) then
       if InR .i64 (v12 + 1) then
        some (Sum.inl (v12 + 1))
       else none
      else
       some (Sum.inr v12)
     else none
    else none
   else none
  else none
 else
  some (Sum.inr v12)
def sPart_L12_H (c : TB) (l : (List Int)) (a : Int) (b : Int) (pv : Int) (x2 : Int) (x5 : Int) : Int → St := fun (s : Int) => S 178 [(0, .vec 0 l.length 1), (1, .int .i64 a), (4, cFn c), (12, .int .i64 s), (13, .int .i64 (b - 1))] [(bV (fl e_i64 (List.set (List.set l a.toNat x2) pv.toNat x5)) 3)]
def sPart_L12_X (c : TB) (l : (List Int)) (a : Int) (b : Int) (pv : Int) (x2 : Int) (x5 : Int) : Int → AEx := fun o => (.exit 0)
def sPart_L12_T (c : TB) (l : (List Int)) (a : Int) (b : Int) (pv : Int) (x2 : Int) (x5 : Int) : Int → List (Nat × AV) := fun o => [(0, .vec 0 l.length 1), (1, .int .i64 a), (4, cFn c), (12, .int .i64 o), (13, .int .i64 (b - 1))]
def sPart_L12_B (c : TB) (l : (List Int)) (a : Int) (b : Int) (pv : Int) (x2 : Int) (x5 : Int) : Int → List Blk := fun o => [(bV (fl e_i64 (List.set (List.set l a.toNat x2) pv.toNat x5)) 3)]
def sPart_L12_E (c : TB) (l : (List Int)) (a : Int) (b : Int) (pv : Int) (x2 : Int) (x5 : Int) (q : Int) : St := S 178 (sPart_L12_T c l a b pv x2 x5 q) (sPart_L12_B c l a b pv x2 x5 q)
theorem sPart_L12_does (c : TB) (l : (List Int)) (a : Int) (b : Int) (pv : Int) (x2 : Int) (x5 : Int) {s : Int} {r : Int} (h : lp (sPart_L12_step c l a b pv x2 x5) s = some r) : Does Tryz.prog G0 1 (.loop (bodyAt Tryz.prog 142 [1, 1, 1, 0, 0, 0])) (sPart_L12_H c l a b pv x2 x5 s) (sPart_L12_X c l a b pv x2 x5 r) (sPart_L12_E c l a b pv x2 x5 r) := by
 refine Does.lp (H := sPart_L12_H c l a b pv x2 x5) (X := sPart_L12_X c l a b pv x2 x5) (E := sPart_L12_E c l a b pv x2 x5) (fun s s2 h => ?_) (fun s r h => ?_) h
 ·revert h; revert s; intro v12 h
  unfold sPart_L12_step at h
  try dsimp only at h
  rcases itS h with ⟨c26, h⟩ | ⟨c26, h⟩
  ·obtain ⟨h27, h⟩ := gdS h
   obtain ⟨h28, h⟩ := gdS h
   obtain ⟨x29, h30, h⟩ := bnS h
   obtain ⟨h31, h⟩ := gdS h
   obtain ⟨h32, h⟩ := gdS h
   obtain ⟨x33, h34, h⟩ := bnS h
   obtain ⟨r35, h36, h⟩ := bnS h
   rcases itS h with ⟨c37, h⟩ | ⟨c37, h⟩
   ·obtain ⟨h38, h⟩ := gdS h
    obtain rfl := oL h
    exact Does.of_viewM 1 400 (cs 2 [oa, oc, tc, tc, tc, .op (some true) (.i v12.toNat), .op (some true) (.v [jI x29]), tc, tc, .op (some true) (.i a.toNat), .op (some true) (.v [jI x33]), .ret (some true) [.any, .any, .any] (jI r35) [], ta, .op none (.b true), .br true, oc, ow, oc]) [0] (by kernel_rfl) (by kernel_rfl) (k2 (dT c26) (k2 (dT c26) (k2 (dT c26) (k2 (dT c26) (k2 (iy h27 h28) (k2 (dT c26) (k2 (s_i64 h30) (k2 (dT c26) (k2 (dT c26) (k2 (dT c26) (k2 (iy h31 h32) (k2 (dT c26) (k2 (s_i64 h34) (k2 (dT c26) (k2 (cCmp_ret c x29 x33 r35 h36) (k2 (dT c26) (k2 (dT c26) (k2 (dT c37) (ok1 h38)))))))))))))))))))
   ·simp at h
  ·simp at h
 ·revert h; revert s; intro v12 h
  unfold sPart_L12_step at h
  try dsimp only at h
  let f173 : List CH := (cs 2 [oa, oc])
  rcases itS h with ⟨c26, h⟩ | ⟨c26, h⟩
  ·obtain ⟨h27, h⟩ := gdS h
   obtain ⟨h28, h⟩ := gdS h
   obtain ⟨x29, h30, h⟩ := bnS h
   obtain ⟨h31, h⟩ := gdS h
   obtain ⟨h32, h⟩ := gdS h
   obtain ⟨x33, h34, h⟩ := bnS h
   obtain ⟨r35, h36, h⟩ := bnS h
   rcases itS h with ⟨c37, h⟩ | ⟨c37, h⟩
   ·obtain ⟨h38, h⟩ := gdS h
    simp at h
   ·obtain rfl := oR h
    exact ⟨Does.of_viewM 1 400 (f173 ++ [tc, tc, tc, .op (some true) (.i v12.toNat), .op (some true) (.v [jI x29]), tc, tc, .op (some true) (.i a.toNat), .op (some true) (.v [jI x33]), .ret (some true) [.any, .any, .any] (jI r35) [], ta, .op none (.b true), .br false]) [0] (by kernel_rfl) (by kernel_rfl) (k2 (dT c26) (k2 (dT c26) (k2 (dT c26) (k2 (dT c26) (k2 (iy h27 h28) (k2 (dT c26) (k2 (s_i64 h30) (k2 (dT c26) (k2 (dT c26) (k2 (dT c26) (k2 (iy h31 h32) (k2 (dT c26) (k2 (s_i64 h34) (k2 (dT c26) (k2 (cCmp_ret c x29 x33 r35 h36) (k2 (dT c26) (k2 (dT c26) (ok1 (dF c37))))))))))))))))))), by intro q; cases q⟩
  ·obtain rfl := oR h
   exact ⟨Does.of_viewM 1 400 (f173 ++ [.op (some false) .c, .op (some false) .c, .op (some false) .c, .op (some false) .c, .op (some false) .c, .op (some false) .c, .op (some false) .c, .op (some false) .c, .op (some false) .c, .op (some false) .c, .op (some false) .c, .op none (.b false), .br false]) [0] (by kernel_rfl) (by kernel_rfl) (k2 (dF c26) (k2 (dF c26) (k2 (dF c26) (k2 (dF c26) (k2 (dF c26) (k2 (dF c26) (k2 (dF c26) (k2 (dF c26) (k2 (dF c26) (k2 (dF c26) (k2 (dF c26) (k2 (dF c26) (ok1 (rfl : false = false)))))))))))))), by intro q; cases q⟩
def sPart_L39_step (c : TB) (l : (List Int)) (a : Int) (pv : Int) (x2 : Int) (x5 : Int) (o12 : Int) : Int → Option (Int ⊕ Int) := fun v13 =>
 if o12 ≤ v13 then
  if (0 : Int) ≤ v13 then
   if v13.toNat < l.length then
    ((List.set (List.set l a.toNat x2) pv.toNat x5)[v13.toNat]?).bind fun x56 =>
    if (0 : Int) ≤ a then
     if a.toNat < l.length then
      ((List.set (List.set l a.toNat x2) pv.toNat x5)[a.toNat]?).bind fun x60 =>
      (cCmp c x56 x60).bind fun r62 =>
      if r62 < (0 : Int) then
       some (Sum.inr v13)
      else
       if InR .i64 (v13 - 1) then
        some (Sum.inl (v13 - 1))
       else none
     else none
    else none
   else none
  else none
 else
  some (Sum.inr v13)
def sPart_L39_H (c : TB) (l : (List Int)) (a : Int) (pv : Int) (x2 : Int) (x5 : Int) (o12 : Int) : Int → St := fun (s : Int) => S 178 [(0, .vec 0 l.length 1), (1, .int .i64 a), (4, cFn c), (12, .int .i64 o12), (13, .int .i64 s)] [(bV (fl e_i64 (List.set (List.set l a.toNat x2) pv.toNat x5)) 3)]
def sPart_L39_X (c : TB) (l : (List Int)) (a : Int) (pv : Int) (x2 : Int) (x5 : Int) (o12 : Int) : Int → AEx := fun o => (.exit 2)
def sPart_L39_T (c : TB) (l : (List Int)) (a : Int) (pv : Int) (x2 : Int) (x5 : Int) (o12 : Int) : Int → List (Nat × AV) := fun o => [(0, .vec 0 l.length 1), (1, .int .i64 a), (4, cFn c), (12, .int .i64 o12), (13, .int .i64 o)]
def sPart_L39_B (c : TB) (l : (List Int)) (a : Int) (pv : Int) (x2 : Int) (x5 : Int) (o12 : Int) : Int → List Blk := fun o => [(bV (fl e_i64 (List.set (List.set l a.toNat x2) pv.toNat x5)) 3)]
def sPart_L39_E (c : TB) (l : (List Int)) (a : Int) (pv : Int) (x2 : Int) (x5 : Int) (o12 : Int) (q : Int) : St := S 178 (sPart_L39_T c l a pv x2 x5 o12 q) (sPart_L39_B c l a pv x2 x5 o12 q)
theorem sPart_L39_does (c : TB) (l : (List Int)) (a : Int) (pv : Int) (x2 : Int) (x5 : Int) (o12 : Int) {s : Int} {r : Int} (h : lp (sPart_L39_step c l a pv x2 x5 o12) s = some r) : Does Tryz.prog G0 1 (.loop (bodyAt Tryz.prog 142 [1, 1, 1, 1, 0, 0, 0])) (sPart_L39_H c l a pv x2 x5 o12 s) (sPart_L39_X c l a pv x2 x5 o12 r) (sPart_L39_E c l a pv x2 x5 o12 r) := by
 refine Does.lp (H := sPart_L39_H c l a pv x2 x5 o12) (X := sPart_L39_X c l a pv x2 x5 o12) (E := sPart_L39_E c l a pv x2 x5 o12) (fun s s2 h => ?_) (fun s r h => ?_) h
 ·revert h; revert s; intro v13 h
  unfold sPart_L39_step at h
  try dsimp only at h
  rcases itS h with ⟨c53, h⟩ | ⟨c53, h⟩
  ·obtain ⟨h54, h⟩ := gdS h
   obtain ⟨h55, h⟩ := gdS h
   obtain ⟨x56, h57, h⟩ := bnS h
   obtain ⟨h58, h⟩ := gdS h
   obtain ⟨h59, h⟩ := gdS h
   obtain ⟨x60, h61, h⟩ := bnS h
   obtain ⟨r62, h63, h⟩ := bnS h
   rcases itS h with ⟨c64, h⟩ | ⟨c64, h⟩
   ·simp at h
   ·obtain ⟨h65, h⟩ := gdS h
    obtain rfl := oL h
    exact Does.of_viewM 1 400 (cs 2 [oa, oc, tc, tc, tc, .op (some true) (.i v13.toNat), .op (some true) (.v [jI x56]), tc, tc, .op (some true) (.i a.toNat), .op (some true) (.v [jI x60]), .ret (some true) [.any, .any, .any] (jI r62) [], ta, tc, .op none (.b true), .br true, oc, ow, oc]) [0] (by kernel_rfl) (by kernel_rfl) (k2 (dT c53) (k2 (dT c53) (k2 (dT c53) (k2 (dT c53) (k2 (iy h54 h55) (k2 (dT c53) (k2 (s_i64 h57) (k2 (dT c53) (k2 (dT c53) (k2 (dT c53) (k2 (iy h58 h59) (k2 (dT c53) (k2 (s_i64 h61) (k2 (dT c53) (k2 (cCmp_ret c x56 x60 r62 h63) (k2 (dT c53) (k2 (dT c53) (k2 (dT c53) (k2 (not_t (dF c64)) (ok1 h65))))))))))))))))))))
  ·simp at h
 ·revert h; revert s; intro v13 h
  unfold sPart_L39_step at h
  try dsimp only at h
  let f174 : List CH := (cs 2 [oa, oc])
  rcases itS h with ⟨c53, h⟩ | ⟨c53, h⟩
  ·obtain ⟨h54, h⟩ := gdS h
   obtain ⟨h55, h⟩ := gdS h
   obtain ⟨x56, h57, h⟩ := bnS h
   obtain ⟨h58, h⟩ := gdS h
   obtain ⟨h59, h⟩ := gdS h
   obtain ⟨x60, h61, h⟩ := bnS h
   obtain ⟨r62, h63, h⟩ := bnS h
   rcases itS h with ⟨c64, h⟩ | ⟨c64, h⟩
   ·obtain rfl := oR h
    exact ⟨Does.of_viewM 1 400 (f174 ++ [tc, tc, tc, .op (some true) (.i v13.toNat), .op (some true) (.v [jI x56]), tc, tc, .op (some true) (.i a.toNat), .op (some true) (.v [jI x60]), .ret (some true) [.any, .any, .any] (jI r62) [], ta, tc, .op none (.b true), .br false]) [0] (by kernel_rfl) (by kernel_rfl) (k2 (dT c53) (k2 (dT c53) (k2 (dT c53) (k2 (dT c53) (k2 (iy h54 h55) (k2 (dT c53) (k2 (s_i64 h57) (k2 (dT c53) (k2 (dT c53) (k2 (dT c53) (k2 (iy h58 h59) (k2 (dT c53) (k2 (s_i64 h61) (k2 (dT c53) (k2 (cCmp_ret c x56 x60 r62 h63) (k2 (dT c53) (k2 (dT c53) (k2 (dT c53) (ok1 (not_f (dT c64))))))))))))))))))))), by intro q; cases q⟩
   ·obtain ⟨h65, h⟩ := gdS h
    simp at h
  ·obtain rfl := oR h
   exact ⟨Does.of_viewM 1 400 (f174 ++ [.op (some false) .c, .op (some false) .c, .op (some false) .c, .op (some false) .c, .op (some false) .c, .op (some false) .c, .op (some false) .c, .op (some false) .c, .op (some false) .c, .op (some false) .c, .op (some false) .c, .op (some false) .c, .op none (.b false), .br false]) [0] (by kernel_rfl) (by kernel_rfl) (k2 (dF c53) (k2 (dF c53) (k2 (dF c53) (k2 (dF c53) (k2 (dF c53) (k2 (dF c53) (k2 (dF c53) (k2 (dF c53) (k2 (dF c53) (k2 (dF c53) (k2 (dF c53) (k2 (dF c53) (k2 (dF c53) (ok1 (rfl : false = false))))))))))))))), by intro q; cases q⟩
def sPart_L214_step (c : TB) (a : Int) (v12 : Int) (v13 : Int) (b0 : (List Int)) : Int → Option (Int ⊕ Int) := fun v12 =>
 if v12 ≤ v13 then
  if (0 : Int) ≤ v12 then
   (b0[v12.toNat]?).bind fun x228 =>
   if (0 : Int) ≤ a then
    (b0[a.toNat]?).bind fun x231 =>
    (cCmp c x228 x231).bind fun r233 =>
    if r233 < (0 : Int) then
     if InR .i64 (v12 + 1) then
      some (Sum.inl (v12 + 1))
     else none
    else
     some (Sum.inr v12)
   else none
  else none
 else
  some (Sum.inr v12)
def sPart_L214_H (c : TB) (a : Int) (v12 : Int) (v13 : Int) (b0 : (List Int)) : Int → St := fun (s : Int) => S 178 [(0, .vec 0 b0.length 1), (1, .int .i64 a), (4, cFn c), (12, .int .i64 s), (13, .int .i64 v13)] [(bV (fl e_i64 b0) 3)]
def sPart_L214_X (c : TB) (a : Int) (v12 : Int) (v13 : Int) (b0 : (List Int)) : Int → AEx := fun o => (.exit 6)
def sPart_L214_T (c : TB) (a : Int) (v12 : Int) (v13 : Int) (b0 : (List Int)) : Int → List (Nat × AV) := fun o => [(0, .vec 0 b0.length 1), (1, .int .i64 a), (4, cFn c), (12, .int .i64 o), (13, .int .i64 v13)]
def sPart_L214_B (c : TB) (a : Int) (v12 : Int) (v13 : Int) (b0 : (List Int)) : Int → List Blk := fun o => [(bV (fl e_i64 b0) 3)]
def sPart_L214_E (c : TB) (a : Int) (v12 : Int) (v13 : Int) (b0 : (List Int)) (q : Int) : St := S 178 (sPart_L214_T c a v12 v13 b0 q) (sPart_L214_B c a v12 v13 b0 q)
theorem sPart_L214_does (c : TB) (a : Int) (v12 : Int) (v13 : Int) (b0 : (List Int)) {s : Int} {r : Int} (h : lp (sPart_L214_step c a v12 v13 b0) s = some r) : Does Tryz.prog G0 1 (.loop (bodyAt Tryz.prog 142 [1, 1, 1, 1, 1, 1, 1, 1, 1, 0, 0, 0, 0, 0, 0, 0])) (sPart_L214_H c a v12 v13 b0 s) (sPart_L214_X c a v12 v13 b0 r) (sPart_L214_E c a v12 v13 b0 r) := by
 refine Does.lp (H := sPart_L214_H c a v12 v13 b0) (X := sPart_L214_X c a v12 v13 b0) (E := sPart_L214_E c a v12 v13 b0) (fun s s2 h => ?_) (fun s r h => ?_) h
 ·revert h; revert s; intro v12 h
  unfold sPart_L214_step at h
  try dsimp only at h
  rcases itS h with ⟨c226, h⟩ | ⟨c226, h⟩
  ·obtain ⟨h227, h⟩ := gdS h
   obtain ⟨x228, h229, h⟩ := bnS h
   obtain ⟨h230, h⟩ := gdS h
   obtain ⟨x231, h232, h⟩ := bnS h
   obtain ⟨r233, h234, h⟩ := bnS h
   rcases itS h with ⟨c235, h⟩ | ⟨c235, h⟩
   ·obtain ⟨h236, h⟩ := gdS h
    obtain rfl := oL h
    exact Does.of_viewM 1 400 (cs 2 [oa, oc, tc, tc, tc, .op (some true) (.i v12.toNat), .op (some true) (.v [jI x228]), tc, tc, .op (some true) (.i a.toNat), .op (some true) (.v [jI x231]), .ret (some true) [.any, .any, .any] (jI r233) [], ta, .op none (.b true), .br true, oc, ow, oc]) [0] (by kernel_rfl) (by kernel_rfl) (k2 (dT c226) (k2 (dT c226) (k2 (dT c226) (k2 (dT c226) (k2 (ix h227 h229) (k2 (dT c226) (k2 (s_i64 h229) (k2 (dT c226) (k2 (dT c226) (k2 (dT c226) (k2 (ix h230 h232) (k2 (dT c226) (k2 (s_i64 h232) (k2 (dT c226) (k2 (cCmp_ret c x228 x231 r233 h234) (k2 (dT c226) (k2 (dT c226) (k2 (dT c235) (ok1 h236)))))))))))))))))))
   ·simp at h
  ·simp at h
 ·revert h; revert s; intro v12 h
  unfold sPart_L214_step at h
  try dsimp only at h
  let f179 : List CH := (cs 2 [oa, oc])
  rcases itS h with ⟨c226, h⟩ | ⟨c226, h⟩
  ·obtain ⟨h227, h⟩ := gdS h
   obtain ⟨x228, h229, h⟩ := bnS h
   obtain ⟨h230, h⟩ := gdS h
   obtain ⟨x231, h232, h⟩ := bnS h
   obtain ⟨r233, h234, h⟩ := bnS h
   rcases itS h with ⟨c235, h⟩ | ⟨c235, h⟩
   ·obtain ⟨h236, h⟩ := gdS h
    simp at h
   ·obtain rfl := oR h
    exact ⟨Does.of_viewM 1 400 (f179 ++ [tc, tc, tc, .op (some true) (.i v12.toNat), .op (some true) (.v [jI x228]), tc, tc, .op (some true) (.i a.toNat), .op (some true) (.v [jI x231]), .ret (some true) [.any, .any, .any] (jI r233) [], ta, .op none (.b true), .br false]) [0] (by kernel_rfl) (by kernel_rfl) (k2 (dT c226) (k2 (dT c226) (k2 (dT c226) (k2 (dT c226) (k2 (ix h227 h229) (k2 (dT c226) (k2 (s_i64 h229) (k2 (dT c226) (k2 (dT c226) (k2 (dT c226) (k2 (ix h230 h232) (k2 (dT c226) (k2 (s_i64 h232) (k2 (dT c226) (k2 (cCmp_ret c x228 x231 r233 h234) (k2 (dT c226) (k2 (dT c226) (ok1 (dF c235))))))))))))))))))), by intro q; cases q⟩
  ·obtain rfl := oR h
   exact ⟨Does.of_viewM 1 400 (f179 ++ [.op (some false) .c, .op (some false) .c, .op (some false) .c, .op (some false) .c, .op (some false) .c, .op (some false) .c, .op (some false) .c, .op (some false) .c, .op (some false) .c, .op (some false) .c, .op (some false) .c, .op none (.b false), .br false]) [0] (by kernel_rfl) (by kernel_rfl) (k2 (dF c226) (k2 (dF c226) (k2 (dF c226) (k2 (dF c226) (k2 (dF c226) (k2 (dF c226) (k2 (dF c226) (k2 (dF c226) (k2 (dF c226) (k2 (dF c226) (k2 (dF c226) (k2 (dF c226) (ok1 (rfl : false = false)))))))))))))), by intro q; cases q⟩
def sPart_L237_step (c : TB) (a : Int) (v13 : Int) (b0 : (List Int)) (o214 : Int) : Int → Option (Int ⊕ Int) := fun v13 =>
 if o214 ≤ v13 then
  if (0 : Int) ≤ v13 then
   (b0[v13.toNat]?).bind fun x251 =>
   if (0 : Int) ≤ a then
    (b0[a.toNat]?).bind fun x254 =>
    (cCmp c x251 x254).bind fun r256 =>
    if r256 < (0 : Int) then
     some (Sum.inr v13)
    else
     if InR .i64 (v13 - 1) then
      some (Sum.inl (v13 - 1))
     else none
   else none
  else none
 else
  some (Sum.inr v13)
def sPart_L237_H (c : TB) (a : Int) (v13 : Int) (b0 : (List Int)) (o214 : Int) : Int → St := fun (s : Int) => S 178 [(0, .vec 0 b0.length 1), (1, .int .i64 a), (4, cFn c), (12, .int .i64 o214), (13, .int .i64 s)] [(bV (fl e_i64 b0) 3)]
def sPart_L237_X (c : TB) (a : Int) (v13 : Int) (b0 : (List Int)) (o214 : Int) : Int → AEx := fun o => (.exit 8)
def sPart_L237_T (c : TB) (a : Int) (v13 : Int) (b0 : (List Int)) (o214 : Int) : Int → List (Nat × AV) := fun o => [(0, .vec 0 b0.length 1), (1, .int .i64 a), (4, cFn c), (12, .int .i64 o214), (13, .int .i64 o)]
def sPart_L237_B (c : TB) (a : Int) (v13 : Int) (b0 : (List Int)) (o214 : Int) : Int → List Blk := fun o => [(bV (fl e_i64 b0) 3)]
def sPart_L237_E (c : TB) (a : Int) (v13 : Int) (b0 : (List Int)) (o214 : Int) (q : Int) : St := S 178 (sPart_L237_T c a v13 b0 o214 q) (sPart_L237_B c a v13 b0 o214 q)
theorem sPart_L237_does (c : TB) (a : Int) (v13 : Int) (b0 : (List Int)) (o214 : Int) {s : Int} {r : Int} (h : lp (sPart_L237_step c a v13 b0 o214) s = some r) : Does Tryz.prog G0 1 (.loop (bodyAt Tryz.prog 142 [1, 1, 1, 1, 1, 1, 1, 1, 1, 0, 0, 0, 0, 1, 0, 0, 0])) (sPart_L237_H c a v13 b0 o214 s) (sPart_L237_X c a v13 b0 o214 r) (sPart_L237_E c a v13 b0 o214 r) := by
 refine Does.lp (H := sPart_L237_H c a v13 b0 o214) (X := sPart_L237_X c a v13 b0 o214) (E := sPart_L237_E c a v13 b0 o214) (fun s s2 h => ?_) (fun s r h => ?_) h
 ·revert h; revert s; intro v13 h
  unfold sPart_L237_step at h
  try dsimp only at h
  rcases itS h with ⟨c249, h⟩ | ⟨c249, h⟩
  ·obtain ⟨h250, h⟩ := gdS h
   obtain ⟨x251, h252, h⟩ := bnS h
   obtain ⟨h253, h⟩ := gdS h
   obtain ⟨x254, h255, h⟩ := bnS h
   obtain ⟨r256, h257, h⟩ := bnS h
   rcases itS h with ⟨c258, h⟩ | ⟨c258, h⟩
   ·simp at h
   ·obtain ⟨h259, h⟩ := gdS h
    obtain rfl := oL h
    exact Does.of_viewM 1 400 (cs 2 [oa, oc, tc, tc, tc, .op (some true) (.i v13.toNat), .op (some true) (.v [jI x251]), tc, tc, .op (some true) (.i a.toNat), .op (some true) (.v [jI x254]), .ret (some true) [.any, .any, .any] (jI r256) [], ta, tc, .op none (.b true), .br true, oc, ow, oc]) [0] (by kernel_rfl) (by kernel_rfl) (k2 (dT c249) (k2 (dT c249) (k2 (dT c249) (k2 (dT c249) (k2 (ix h250 h252) (k2 (dT c249) (k2 (s_i64 h252) (k2 (dT c249) (k2 (dT c249) (k2 (dT c249) (k2 (ix h253 h255) (k2 (dT c249) (k2 (s_i64 h255) (k2 (dT c249) (k2 (cCmp_ret c x251 x254 r256 h257) (k2 (dT c249) (k2 (dT c249) (k2 (dT c249) (k2 (not_t (dF c258)) (ok1 h259))))))))))))))))))))
  ·simp at h
 ·revert h; revert s; intro v13 h
  unfold sPart_L237_step at h
  try dsimp only at h
  let f180 : List CH := (cs 2 [oa, oc])
  rcases itS h with ⟨c249, h⟩ | ⟨c249, h⟩
  ·obtain ⟨h250, h⟩ := gdS h
   obtain ⟨x251, h252, h⟩ := bnS h
   obtain ⟨h253, h⟩ := gdS h
   obtain ⟨x254, h255, h⟩ := bnS h
   obtain ⟨r256, h257, h⟩ := bnS h
   rcases itS h with ⟨c258, h⟩ | ⟨c258, h⟩
   ·obtain rfl := oR h
    exact ⟨Does.of_viewM 1 400 (f180 ++ [tc, tc, tc, .op (some true) (.i v13.toNat), .op (some true) (.v [jI x251]), tc, tc, .op (some true) (.i a.toNat), .op (some true) (.v [jI x254]), .ret (some true) [.any, .any, .any] (jI r256) [], ta, tc, .op none (.b true), .br false]) [0] (by kernel_rfl) (by kernel_rfl) (k2 (dT c249) (k2 (dT c249) (k2 (dT c249) (k2 (dT c249) (k2 (ix h250 h252) (k2 (dT c249) (k2 (s_i64 h252) (k2 (dT c249) (k2 (dT c249) (k2 (dT c249) (k2 (ix h253 h255) (k2 (dT c249) (k2 (s_i64 h255) (k2 (dT c249) (k2 (cCmp_ret c x251 x254 r256 h257) (k2 (dT c249) (k2 (dT c249) (k2 (dT c249) (ok1 (not_f (dT c258))))))))))))))))))))), by intro q; cases q⟩
   ·obtain ⟨h259, h⟩ := gdS h
    simp at h
  ·obtain rfl := oR h
   exact ⟨Does.of_viewM 1 400 (f180 ++ [.op (some false) .c, .op (some false) .c, .op (some false) .c, .op (some false) .c, .op (some false) .c, .op (some false) .c, .op (some false) .c, .op (some false) .c, .op (some false) .c, .op (some false) .c, .op (some false) .c, .op (some false) .c, .op none (.b false), .br false]) [0] (by kernel_rfl) (by kernel_rfl) (k2 (dF c249) (k2 (dF c249) (k2 (dF c249) (k2 (dF c249) (k2 (dF c249) (k2 (dF c249) (k2 (dF c249) (k2 (dF c249) (k2 (dF c249) (k2 (dF c249) (k2 (dF c249) (k2 (dF c249) (k2 (dF c249) (ok1 (rfl : false = false))))))))))))))), by intro q; cases q⟩
def sPart_L88_step (c : TB) (a : Int) : (Int × Int × (List Int)) → Option ((Int × Int × (List Int)) ⊕ (Int × (List Int)))
 | (v12, v13, b0) =>
  (lp (sPart_L214_step c a v12 v13 b0) v12).bind fun o214 =>
  (lp (sPart_L237_step c a v13 b0 o214) v13).bind fun o237 =>
  if o214 > o237 then
   some (Sum.inr (o237, b0))
  else
   if (0 : Int) ≤ o237 then
    (b0[o237.toNat]?).bind fun x262 =>
    if (0 : Int) ≤ o214 then
     (b0[o214.toNat]?).bind fun x265 =>
     if o237.toNat < b0.length then
      ((List.set b0 o214.toNat x262)[o237.toNat]?).bind fun x268 =>
      if InR .i64 (o214 + 1) then
       if InR .i64 (o237 - 1) then
        some (Sum.inl ((o214 + 1), (o237 - 1), (List.set (List.set b0 o214.toNat x262) o237.toNat x265)))
       else none
      else none
     else none
    else none
   else none
def sPart_L88_H (c : TB) (a : Int) : (Int × Int × (List Int)) → St := fun (s : (Int × Int × (List Int))) => S 178 [(0, .vec 0 s.2.2.length 1), (1, .int .i64 a), (4, cFn c), (12, .int .i64 s.1), (13, .int .i64 s.2.1)] [(bV (fl e_i64 s.2.2) 3)]
def sPart_L88_X (c : TB) (a : Int) : (Int × (List Int)) → AEx := fun o => (.exit 4)
def sPart_L88_T (c : TB) (a : Int) : (Int × (List Int)) → List (Nat × AV) := fun o => [(0, .vec 0 o.2.length 1), (1, .int .i64 a), (13, .int .i64 o.1)]
def sPart_L88_B (c : TB) (a : Int) : (Int × (List Int)) → List Blk := fun o => [(bV (fl e_i64 o.2) 3)]
def sPart_L88_E (c : TB) (a : Int) (q : (Int × (List Int))) : St := S 178 (sPart_L88_T c a q) (sPart_L88_B c a q)
theorem sPart_L88_does (c : TB) (a : Int) {s : (Int × Int × (List Int))} {r : (Int × (List Int))} (h : lp (sPart_L88_step c a) s = some r) : Does Tryz.prog G0 1 (.loop (bodyAt Tryz.prog 142 [1, 1, 1, 1, 1, 1, 1, 1, 1, 0, 0, 0])) (sPart_L88_H c a s) (sPart_L88_X c a r) (sPart_L88_E c a r) := by
 refine Does.lp (H := sPart_L88_H c a) (X := sPart_L88_X c a) (E := sPart_L88_E c a) (fun s s2 h => ?_) (fun s r h => ?_) h
 ·obtain ⟨v12, v13, b0⟩ := s
  unfold sPart_L88_step at h
  try dsimp only at h
  obtain ⟨o214, hl214, h⟩ := bnS h
  obtain ⟨o237, hl237, h⟩ := bnS h
  rcases itS h with ⟨c260, h⟩ | ⟨c260, h⟩
  ·simp at h
  ·obtain ⟨h261, h⟩ := gdS h
   obtain ⟨x262, h263, h⟩ := bnS h
   obtain ⟨h264, h⟩ := gdS h
   obtain ⟨x265, h266, h⟩ := bnS h
   obtain ⟨h267, h⟩ := gdS h
   obtain ⟨x268, h269, h⟩ := bnS h
   obtain ⟨h270, h⟩ := gdS h
   obtain ⟨h271, h⟩ := gdS h
   obtain rfl := oL h
   simp only [sPart_L88_H, List.length_set]
   exact Does.of_viewM 1 400 ((.fcut 1 (.exit 6) (sPart_L214_T c a v12 v13 b0 o214) [(bV (fl e_i64 b0) 3)] [0] [(0, .any), (1, .any), (4, .any), (12, .any), (13, .any)] [bS]) :: (.fcut 1 (.exit 8) (sPart_L237_T c a v13 b0 o214 o237) [(bV (fl e_i64 b0) 3)] [0] [(0, .any), (1, .any), (4, .any), (12, .any), (13, .any)] [bS]) :: (cs 2 (oa :: bf :: (cs 6 ((.op none (.i o237.toNat)) :: (vI x262) :: (cs 2 ((.op none (.i o214.toNat)) :: (vI x265) :: (.op none (.i o214.toNat)) :: oa :: (.trp (.eqc 0 (fl e_i64 (List.set b0 o214.toNat x262)))) :: (.op none (.i o237.toNat)) :: oa :: (.trp (.eqc 0 (fl e_i64 (List.set (List.set b0 o214.toNat x262) o237.toNat x265)))) :: oc :: ow :: (cs 2 [ow, oc])))))))) [0] (by kernel_rfl) (by kernel_rfl) (k2 (sPart_L214_does c a v12 v13 b0 (s := v12) (r := o214) hl214) (k2 (sPart_L237_does c a v13 b0 o214 (s := v13) (r := o237) hl237) (k2 (dF c260) (k2 (ix h261 h263) (k2 (s_i64 h263) (k2 (ix h264 h266) (k2 (s_i64 h266) (k2 (ix h264 h266) (k2 (rm_i64 h266) (k2 (st_i64 x262 h266) (k2 (iy h261 h267) (k2 (rm_i64 h269) (k2 (st_i64 x265 h269) (k2 h270 (ok1 h271)))))))))))))))
 ·obtain ⟨v12, v13, b0⟩ := s
  unfold sPart_L88_step at h
  try dsimp only at h
  obtain ⟨o214, hl214, h⟩ := bnS h
  obtain ⟨o237, hl237, h⟩ := bnS h
  rcases itS h with ⟨c260, h⟩ | ⟨c260, h⟩
  ·obtain rfl := oR h
   exact ⟨Does.of_viewM 1 400 ((.fcut 1 (.exit 6) (sPart_L214_T c a v12 v13 b0 o214) [(bV (fl e_i64 b0) 3)] [0] [(0, .any), (1, .any), (4, .any), (12, .any), (13, .any)] [bS]) :: (.fcut 1 (.exit 8) (sPart_L237_T c a v13 b0 o214 o237) [(bV (fl e_i64 b0) 3)] [0] [(0, .any), (1, .any), (4, .any), (12, .any), (13, .any)] [bS]) :: (cs 2 [oa, .br true])) [0] (by kernel_rfl) (by kernel_rfl) (k2 (sPart_L214_does c a v12 v13 b0 (s := v12) (r := o214) hl214) (k2 (sPart_L237_does c a v13 b0 o214 (s := v13) (r := o237) hl237) (ok1 (dT c260)))), by intro q; cases q⟩
  ·obtain ⟨h261, h⟩ := gdS h
   obtain ⟨x262, h263, h⟩ := bnS h
   obtain ⟨h264, h⟩ := gdS h
   obtain ⟨x265, h266, h⟩ := bnS h
   obtain ⟨h267, h⟩ := gdS h
   obtain ⟨x268, h269, h⟩ := bnS h
   obtain ⟨h270, h⟩ := gdS h
   obtain ⟨h271, h⟩ := gdS h
   simp at h
def sPart (c : TB) (l : (List Int)) (a : Int) (b : Int) (pv : Int) : Option ((List Int) × Int × Bool) :=
 if (0 : Int) ≤ pv then
  (l[pv.toNat]?).bind fun x2 =>
  if (0 : Int) ≤ a then
   (l[a.toNat]?).bind fun x5 =>
   if pv.toNat < l.length then
    ((List.set l a.toNat x2)[pv.toNat]?).bind fun x8 =>
    if InR .i64 (a + 1) then
     if InR .i64 (b - 1) then
      (lp (sPart_L12_step c l a b pv x2 x5) (a + 1)).bind fun o12 =>
      (lp (sPart_L39_step c l a pv x2 x5 o12) (b - 1)).bind fun o39 =>
      if o12 > o39 then
       if a.toNat < l.length then
        ((List.set (List.set l a.toNat x2) pv.toNat x5)[a.toNat]?).bind fun x68 =>
        if (0 : Int) ≤ o39 then
         if o39.toNat < l.length then
          ((List.set (List.set l a.toNat x2) pv.toNat x5)[o39.toNat]?).bind fun x72 =>
          ((List.set (List.set (List.set l a.toNat x2) pv.toNat x5) o39.toNat x68)[a.toNat]?).bind fun x74 =>
          some ((List.set (List.set (List.set (List.set l a.toNat x2) pv.toNat x5) o39.toNat x68) a.toNat x72), o39, true)
         else none
        else none
       else none
      else
       if (0 : Int) ≤ o39 then
        if o39.toNat < l.length then
         ((List.set (List.set l a.toNat x2) pv.toNat x5)[o39.toNat]?).bind fun x78 =>
         if (0 : Int) ≤ o12 then
          if o12.toNat < l.length then
           ((List.set (List.set l a.toNat x2) pv.toNat x5)[o12.toNat]?).bind fun x82 =>
           ((List.set (List.set (List.set l a.toNat x2) pv.toNat x5) o12.toNat x78)[o39.toNat]?).bind fun x84 =>
           if InR .i64 (o12 + 1) then
            if InR .i64 (o39 - 1) then
             (lp (sPart_L88_step c a) ((o12 + 1), (o39 - 1), (List.set (List.set (List.set (List.set l a.toNat x2) pv.toNat x5) o12.toNat x78) o39.toNat x82))).bind fun o88 =>
             (o88.2[a.toNat]?).bind fun x272 =>
             if (0 : Int) ≤ o88.1 then
              (o88.2[o88.1.toNat]?).bind fun x275 =>
              if a.toNat < o88.2.length then
               ((List.set o88.2 o88.1.toNat x272)[a.toNat]?).bind fun x278 =>
               some ((List.set (List.set o88.2 o88.1.toNat x272) a.toNat x275), o88.1, false)
              else none
             else none
            else none
           else none
          else none
         else none
        else none
       else none
     else none
    else none
   else none
  else none
 else none
theorem sPart_ret (c : TB) (l : (List Int)) (a : Int) (b : Int) (pv : Int) (r : ((List Int) × Int × Bool)) (h : sPart c l a b pv = some r) : CallsM Tryz.prog G0 1 142 [.vec 0 l.length 1, .int .i64 a, .int .i64 b, .int .i64 pv, cFn c] [(bV (fl e_i64 l) 3)] (.tup [.int .i64 r.2.1, .bool r.2.2]) [(bV (fl e_i64 r.1) 3)] := by
 unfold sPart at h
 obtain ⟨h1, h⟩ := gdS h
 obtain ⟨x2, h3, h⟩ := bnS h
 obtain ⟨h4, h⟩ := gdS h
 obtain ⟨x5, h6, h⟩ := bnS h
 obtain ⟨h7, h⟩ := gdS h
 obtain ⟨x8, h9, h⟩ := bnS h
 obtain ⟨h10, h⟩ := gdS h
 obtain ⟨h11, h⟩ := gdS h
 obtain ⟨o12, hl12, h⟩ := bnS h
 obtain ⟨o39, hl39, h⟩ := bnS h
 let f181 : List CH := (cs 8 ((.op none (.i pv.toNat)) :: (vI x2) :: (cs 2 ((.op none (.i a.toNat)) :: (vI x5) :: (.op none (.i a.toNat)) :: oa :: (.trp (.eqc 0 (fl e_i64 (List.set l a.toNat x2)))) :: (.op none (.i pv.toNat)) :: oa :: (.trp (.eqc 0 (fl e_i64 (List.set (List.set l a.toNat x2) pv.toNat x5)))) :: oc :: ow :: oc :: ow :: (cs 2 ((.fcut 1 (.exit 0) (sPart_L12_T c l a b pv x2 x5 o12) (sPart_L12_B c l a b pv x2 x5 o12) [0] [(0, .any), (1, .any), (4, .any), (12, .any), (13, .any)] [bS]) :: (.fcut 1 (.exit 2) (sPart_L39_T c l a pv x2 x5 o12 o39) (sPart_L39_B c l a pv x2 x5 o12 o39) [0] [(0, .any), (1, .any), (4, .any), (12, .any), (13, .any)] [bS]) :: (cs 2 [oa])))))))
 have g182 := k2 (ix h1 h3) (k2 (s_i64 h3) (k2 (ix h4 h6) (k2 (s_i64 h6) (k2 (ix h4 h6) (k2 (rm_i64 h6) (k2 (st_i64 x2 h6) (k2 (iy h1 h7) (k2 (rm_i64 h9) (k2 (st_i64 x5 h9) (k2 h10 (k2 h11 (k2 (sPart_L12_does c l a b pv x2 x5 (s := (a + 1)) (r := o12) hl12) (ok1 (sPart_L39_does c l a pv x2 x5 o12 (s := (b - 1)) (r := o39) hl39))))))))))))))
 rcases itS h with ⟨c66, h⟩ | ⟨c66, h⟩
 ·obtain ⟨h67, h⟩ := gdS h
  obtain ⟨x68, h69, h⟩ := bnS h
  obtain ⟨h70, h⟩ := gdS h
  obtain ⟨h71, h⟩ := gdS h
  obtain ⟨x72, h73, h⟩ := bnS h
  obtain ⟨x74, h75, h⟩ := bnS h
  obtain rfl := oI h
  exact CallsM.of_view 1 400 (f181 ++ (bt :: (cs 6 ((.op none (.i a.toNat)) :: (vI x68) :: (cs 2 ((.op none (.i o39.toNat)) :: (vI x72) :: (.op none (.i o39.toNat)) :: oa :: (.trp (.eqc 0 (fl e_i64 (List.set (List.set (List.set l a.toNat x2) pv.toNat x5) o39.toNat x68)))) :: (.op none (.i a.toNat)) :: oa :: (.trp (.eqc 0 (fl e_i64 (List.set (List.set (List.set (List.set l a.toNat x2) pv.toNat x5) o39.toNat x68) a.toNat x72)))) :: (cs 3 []))))))) [0] (by kernel_rfl) (by kernel_rfl) (aO g182 (k2 (dT c66) (k2 (iy h4 h67) (k2 (s_i64 h69) (k2 (iy h70 h71) (k2 (s_i64 h73) (k2 (iy h70 h71) (k2 (rm_i64 h73) (k2 (st_i64 x68 h73) (k2 (iy h4 h67) (k2 (rm_i64 h75) (ok1 (st_i64 x72 h75)))))))))))))
 ·obtain ⟨h76, h⟩ := gdS h
  obtain ⟨h77, h⟩ := gdS h
  obtain ⟨x78, h79, h⟩ := bnS h
  obtain ⟨h80, h⟩ := gdS h
  obtain ⟨h81, h⟩ := gdS h
  obtain ⟨x82, h83, h⟩ := bnS h
  obtain ⟨x84, h85, h⟩ := bnS h
  obtain ⟨h86, h⟩ := gdS h
  obtain ⟨h87, h⟩ := gdS h
  obtain ⟨o88, hl88, h⟩ := bnS h
  obtain ⟨x272, h273, h⟩ := bnS h
  obtain ⟨h274, h⟩ := gdS h
  obtain ⟨x275, h276, h⟩ := bnS h
  obtain ⟨h277, h⟩ := gdS h
  obtain ⟨x278, h279, h⟩ := bnS h
  obtain rfl := oI h
  exact CallsM.of_view 1 400 (f181 ++ (bf :: (cs 6 ((.op none (.i o39.toNat)) :: (vI x78) :: (cs 2 ((.op none (.i o12.toNat)) :: (vI x82) :: (.op none (.i o12.toNat)) :: oa :: (.trp (.eqc 0 (fl e_i64 (List.set (List.set (List.set l a.toNat x2) pv.toNat x5) o12.toNat x78)))) :: (.op none (.i o39.toNat)) :: oa :: (.trp (.eqc 0 (fl e_i64 (List.set (List.set (List.set (List.set l a.toNat x2) pv.toNat x5) o12.toNat x78) o39.toNat x82)))) :: oc :: ow :: (cs 2 (ow :: oc :: (.fcut 1 (.exit 4) (sPart_L88_T c a o88) (sPart_L88_B c a o88) [0] [(0, .vec 0 ((List.set (List.set (List.set (List.set l a.toNat x2) pv.toNat x5) o12.toNat x78) o39.toNat x82).length) 1), (1, .any), (4, .any), (12, .any), (13, .any)] [bS]) :: (cs 6 ((.op none (.i a.toNat)) :: (vI x272) :: (cs 2 ((.op none (.i o88.1.toNat)) :: (vI x275) :: (.op none (.i o88.1.toNat)) :: oa :: (.trp (.eqc 0 (fl e_i64 (List.set o88.2 o88.1.toNat x272)))) :: (.op none (.i a.toNat)) :: oa :: (.trp (.eqc 0 (fl e_i64 (List.set (List.set o88.2 o88.1.toNat x272) a.toNat x275)))) :: (cs 3 []))))))))))))) [0] (by kernel_rfl) (by kernel_rfl) (aO g182 (k2 (dF c66) (k2 (iy h76 h77) (k2 (s_i64 h79) (k2 (iy h80 h81) (k2 (s_i64 h83) (k2 (iy h80 h81) (k2 (rm_i64 h83) (k2 (st_i64 x78 h83) (k2 (iy h76 h77) (k2 (rm_i64 h85) (k2 (st_i64 x82 h85) (k2 h86 (k2 h87 (k2 ((by first | rfl | simp only [List.length_replicate, List.length_set]) : (.vec 0 l.length 1 : AV) = .vec 0 ((List.set (List.set (List.set (List.set l a.toNat x2) pv.toNat x5) o12.toNat x78) o39.toNat x82).length) 1) (k2 (sPart_L88_does c a (s := ((o12 + 1), (o39 - 1), (List.set (List.set (List.set (List.set l a.toNat x2) pv.toNat x5) o12.toNat x78) o39.toNat x82))) (r := o88) hl88) (k2 (ix h4 h273) (k2 (s_i64 h273) (k2 (ix h274 h276) (k2 (s_i64 h276) (k2 (ix h274 h276) (k2 (rm_i64 h276) (k2 (st_i64 x272 h276) (k2 (iy h4 h277) (k2 (rm_i64 h279) (ok1 (st_i64 x275 h279)))))))))))))))))))))))))))
end
set_option maxHeartbeats 4000000
set_option maxRecDepth 100000
noncomputable section
open Go Go.Proofs
def sPdq_J1166_step (rec_sPdq : TB → (List Int) → Int → Int → Int → Option (List Int)) (c : TB) : (Int × Int × Int × Bool × Bool × Int × Int × (List Int)) → Option ((Int × Int × Int × Bool × Bool × (List Int)) ⊕ (Int × Int × Int × Bool × Bool × (List Int)))
 | (v1, v2, v3, v10, v11, v12, v13, b0) =>
  if v1 > (0 : Int) then
   if InR .i64 (v1 - 1) then
    if (0 : Int) ≤ (v1 - 1) then
     (b0[(Int.toNat (v1 - 1))]?).bind fun x1214 =>
     if (0 : Int) ≤ v13 then
      (b0[v13.toNat]?).bind fun x1217 =>
      (cCmp c x1214 x1217).bind fun r1219 =>
      if r1219 < (0 : Int) then
       (sPart c b0 v1 v2 v13).bind fun r1222 =>
       if r1222.1.length = b0.length then
        if InR .i64 (r1222.2.1 - v1) then
         if InR .i64 (v2 - r1222.2.1) then
          if InR .i64 (tdiv v12 8) then
           if (r1222.2.1 - v1) < (v2 - r1222.2.1) then
            (rec_sPdq c r1222.1 v1 r1222.2.1 v3).bind fun r1229 =>
            if r1229.length = r1222.1.length then
             if InR .i64 (r1222.2.1 + 1) then
              some ((Sum.inl ((r1222.2.1 + 1), v2, v3, (decide ((r1222.2.1 - v1) ≥ (tdiv v12 8))), r1222.2.2, r1229)))
             else none
            else none
           else
            if InR .i64 (r1222.2.1 + 1) then
             (rec_sPdq c r1222.1 (r1222.2.1 + 1) v2 v3).bind fun r1234 =>
             if r1234.length = r1222.1.length then
              some ((Sum.inl (v1, r1222.2.1, v3, (decide ((v2 - r1222.2.1) ≥ (tdiv v12 8))), r1222.2.2, r1234)))
             else none
            else none
          else none
         else none
        else none
       else none
      else
       (sPartEq c b0 v1 v2 v13).bind fun r1237 =>
       if r1237.1.length = b0.length then
        some ((Sum.inr ((r1237.2, v2, v3, v10, v11, r1237.1))))
       else none
     else none
    else none
   else none
  else
   (sPart c b0 v1 v2 v13).bind fun r1240 =>
   if r1240.1.length = b0.length then
    if InR .i64 (r1240.2.1 - v1) then
     if InR .i64 (v2 - r1240.2.1) then
      if InR .i64 (tdiv v12 8) then
       if (r1240.2.1 - v1) < (v2 - r1240.2.1) then
        (rec_sPdq c r1240.1 v1 r1240.2.1 v3).bind fun r1247 =>
        if r1247.length = r1240.1.length then
         if InR .i64 (r1240.2.1 + 1) then
          some ((Sum.inl ((r1240.2.1 + 1), v2, v3, (decide ((r1240.2.1 - v1) ≥ (tdiv v12 8))), r1240.2.2, r1247)))
         else none
        else none
       else
        if InR .i64 (r1240.2.1 + 1) then
         (rec_sPdq c r1240.1 (r1240.2.1 + 1) v2 v3).bind fun r1252 =>
         if r1252.length = r1240.1.length then
          some ((Sum.inl (v1, r1240.2.1, v3, (decide ((v2 - r1240.2.1) ≥ (tdiv v12 8))), r1240.2.2, r1252)))
         else none
        else none
      else none
     else none
    else none
   else none
def sPdq_J1166_H (rec_sPdq : TB → (List Int) → Int → Int → Int → Option (List Int)) (c : TB) : (Int × Int × Int × Bool × Bool × Int × Int × (List Int)) → St := fun (s : (Int × Int × Int × Bool × Bool × Int × Int × (List Int))) => S 148 [(0, .vec 0 s.2.2.2.2.2.2.2.length 1), (1, .int .i64 s.1), (2, .int .i64 s.2.1), (3, .int .i64 s.2.2.1), (4, cFn c), (10, .bool s.2.2.2.1), (11, .bool s.2.2.2.2.1), (12, .int .i64 s.2.2.2.2.2.1), (13, .int .i64 s.2.2.2.2.2.2.1)] [(bV (fl e_i64 s.2.2.2.2.2.2.2) 3)]
def sPdq_J1166_X (rec_sPdq : TB → (List Int) → Int → Int → Int → Option (List Int)) (c : TB) : ((Int × Int × Int × Bool × Bool × (List Int)) ⊕ (Int × Int × Int × Bool × Bool × (List Int))) → AEx := fun q => match q with | Sum.inl o => .normal | Sum.inr (o) => (.exit 1)
def sPdq_J1166_T (rec_sPdq : TB → (List Int) → Int → Int → Int → Option (List Int)) (c : TB) : ((Int × Int × Int × Bool × Bool × (List Int)) ⊕ (Int × Int × Int × Bool × Bool × (List Int))) → List (Nat × AV) := fun q => match q with | Sum.inl o => [(0, .vec 0 o.2.2.2.2.2.length 1), (1, .int .i64 o.1), (2, .int .i64 o.2.1), (3, .int .i64 o.2.2.1), (4, cFn c), (10, .bool o.2.2.2.1), (11, .bool o.2.2.2.2.1)] | Sum.inr (o) => [(0, .vec 0 o.2.2.2.2.2.length 1), (1, .int .i64 o.1), (2, .int .i64 o.2.1), (3, .int .i64 o.2.2.1), (4, cFn c), (10, .bool o.2.2.2.1), (11, .bool o.2.2.2.2.1)]
def sPdq_J1166_B (rec_sPdq : TB → (List Int) → Int → Int → Int → Option (List Int)) (c : TB) : ((Int × Int × Int × Bool × Bool × (List Int)) ⊕ (Int × Int × Int × Bool × Bool × (List Int))) → List Blk := fun q => match q with | Sum.inl o => [(bV (fl e_i64 o.2.2.2.2.2) 3)] | Sum.inr (o) => [(bV (fl e_i64 o.2.2.2.2.2) 3)]
def sPdq_J1166_E (rec_sPdq : TB → (List Int) → Int → Int → Int → Option (List Int)) (c : TB) (q : (Int × Int × Int × Bool × Bool × (List Int)) ⊕ (Int × Int × Int × Bool × Bool × (List Int))) : St := S 148 (sPdq_J1166_T rec_sPdq c q) (sPdq_J1166_B rec_sPdq c q)
theorem sPdq_J1166_does (rec_sPdq : TB → (List Int) → Int → Int → Int → Option (List Int)) (c : TB) (hrec_sPdq : ∀ (z0 : TB) (z1 : (List Int)) (z2 : Int) (z3 : Int) (z4 : Int) (r : (List Int)), rec_sPdq z0 z1 z2 z3 z4 = some r → CallsM Tryz.prog G0 1 93 [.vec 0 z1.length 1, .int .i64 z2, .int .i64 z3, .int .i64 z4, .fn (.func 74) [.agg [.lst (fl TC.enc z0.ucharges) z0.ucharges.length]] []] [(bV (fl e_i64 z1) 3)] (.tup []) [(bV (fl e_i64 r) 3)]) {s : (Int × Int × Int × Bool × Bool × Int × Int × (List Int))} {r : (Int × Int × Int × Bool × Bool × (List Int)) ⊕ (Int × Int × Int × Bool × Bool × (List Int))} (h : sPdq_J1166_step rec_sPdq c s = some r) : Does Tryz.prog G0 1 (bodyAt Tryz.prog 93 [1, 1, 0, 0, 0, 1, 1, 1, 1, 1, 1, 1]) (sPdq_J1166_H rec_sPdq c s) (sPdq_J1166_X rec_sPdq c r) (sPdq_J1166_E rec_sPdq c r) := by
 obtain ⟨v1, v2, v3, v10, v11, v12, v13, b0⟩ := s
 unfold sPdq_J1166_step at h
 try dsimp only at h
 let f308 : List CH := [oc, oa, oc]
 rcases itS h with ⟨c1211, h⟩ | ⟨c1211, h⟩
 ·obtain ⟨h1212, h⟩ := gdS h
  obtain ⟨h1213, h⟩ := gdS h
  obtain ⟨x1214, h1215, h⟩ := bnS h
  obtain ⟨h1216, h⟩ := gdS h
  obtain ⟨x1217, h1218, h⟩ := bnS h
  obtain ⟨r1219, h1220, h⟩ := bnS h
  let f309 : List CH := [tc, tc, tc, tw, .op (some true) (.i (Int.toNat (v1 - 1))), .op (some true) (.v [.int .i64 x1214]), tc, tc, .op (some true) (.i v13.toNat), .op (some true) (.v [.int .i64 x1217]), .ret (some true) [.any, .any, .any] (.int .i64 r1219) [], ta, tc, .op none (.b true)]
  have g310 := k2 (dT c1211) (k2 (dT c1211) (k2 (dT c1211) (k2 (dT c1211) (k2 h1212 (k2 (dT c1211) (k2 (ix h1213 h1215) (k2 (dT c1211) (k2 (s_i64 h1215) (k2 (dT c1211) (k2 (dT c1211) (k2 (dT c1211) (k2 (ix h1216 h1218) (k2 (dT c1211) (k2 (s_i64 h1218) (k2 (dT c1211) (k2 (cCmp_ret c x1214 x1217 r1219 h1220) (k2 (dT c1211) (k2 (dT c1211) (ok1 (dT c1211))))))))))))))))))))
  rcases itS h with ⟨c1221, h⟩ | ⟨c1221, h⟩
  ·obtain ⟨r1222, h1223, h⟩ := bnS h
   obtain ⟨h1224, h⟩ := gdS h
   obtain ⟨h1225, h⟩ := gdS h
   obtain ⟨h1226, h⟩ := gdS h
   obtain ⟨h1227, h⟩ := gdS h
   let f311 : List CH := (bf :: (cs 6 ((.spec (fspec 1 [0] [.vec 0 b0.length 1, .int .i64 v1, .int .i64 v2, .int .i64 v13, cFn c] [(bV (fl e_i64 b0) 3)] (.tup [.int .i64 r1222.2.1, .bool r1222.2.2]) [(bV (fl e_i64 r1222.1) 3)])) :: (.tr (.eqt (.t 0) (.vec 0 r1222.1.length 1))) :: (cs 9 (ow :: (cs 2 (ow :: (cs 3 (ow :: (cs 3 [oa]))))))))))
   have g312 := k2 (not_f (dT c1221)) (k2 ((fspec_ok _ (sPart_ret c b0 v1 v2 v13 r1222 h1223)) : SpecOk Tryz.prog G0 142 (fspec 1 [0] [.vec 0 b0.length 1, .int .i64 v1, .int .i64 v2, .int .i64 v13, cFn c] [(bV (fl e_i64 b0) 3)] (.tup [.int .i64 r1222.2.1, .bool r1222.2.2]) [(bV (fl e_i64 r1222.1) 3)])) (k2 (⟨rfl, rfl, trivial⟩ : (([.vec 0 b0.length 1, .int .i64 v1, .int .i64 v2, .int .i64 v13, cFn c] : List AV) = [.vec 0 b0.length 1, .int .i64 v1, .int .i64 v2, .int .i64 v13, cFn c]) ∧ (some (Ob.blk (bV (fl e_i64 b0) 3)) = some (Ob.blk (bV (fl e_i64 b0) 3))) ∧ True) (k2 ((congrArg (fun q => AV.vec 0 q 1) h1224.symm) : (.vec 0 b0.length 1 : AV) = .vec 0 r1222.1.length 1) (k2 h1225 (k2 h1226 (k2 ((by decide) : 8 ≠ (0 : Int)) (ok1 h1227)))))))
   rcases itS h with ⟨c1228, h⟩ | ⟨c1228, h⟩
   ·obtain ⟨r1229, h1230, h⟩ := bnS h
    obtain ⟨h1231, h⟩ := gdS h
    obtain ⟨h1232, h⟩ := gdS h
    obtain rfl := oI h
    exact Does.of_viewM 1 400 (f308 ++ (f309 ++ (f311 ++ (bt :: (cs 2 (oa :: (cs 7 [.spec (fspec 1 [0] [.vec 0 r1222.1.length 1, jI v1, jI r1222.2.1, jI v3, cFn c] [(bV (fl e_i64 r1222.1) 3)] (.tup []) [(bV (fl e_i64 r1229) 3)]), .tr (.eqt (.t 0) (.vec 0 r1229.length 1)), oc, ow, oc]))))))) [0] (by kernel_rfl) (by kernel_rfl) (aO g310 (aO g312 (k2 (dT c1228) (k2 ((fspec_ok _ (hrec_sPdq c r1222.1 v1 r1222.2.1 v3 r1229 h1230)) : SpecOk Tryz.prog G0 93 (fspec 1 [0] [.vec 0 r1222.1.length 1, jI v1, jI r1222.2.1, jI v3, cFn c] [(bV (fl e_i64 r1222.1) 3)] (.tup []) [(bV (fl e_i64 r1229) 3)])) (k2 (⟨rfl, rfl, trivial⟩ : (([.vec 0 r1222.1.length 1, jI v1, jI r1222.2.1, jI v3, cFn c] : List AV) = [.vec 0 r1222.1.length 1, jI v1, jI r1222.2.1, jI v3, cFn c]) ∧ (some (Ob.blk (bV (fl e_i64 r1222.1) 3)) = some (Ob.blk (bV (fl e_i64 r1222.1) 3))) ∧ True) (k2 ((congrArg (fun q => AV.vec 0 q 1) h1231.symm) : (.vec 0 r1222.1.length 1 : AV) = .vec 0 r1229.length 1) (ok1 h1232)))))))
   ·obtain ⟨h1233, h⟩ := gdS h
    obtain ⟨r1234, h1235, h⟩ := bnS h
    obtain ⟨h1236, h⟩ := gdS h
    obtain rfl := oI h
    exact Does.of_viewM 1 400 (f308 ++ (f309 ++ (f311 ++ (bf :: (cs 2 (oa :: (cs 3 (ow :: (cs 4 ((.spec (fspec 1 [0] [.vec 0 r1222.1.length 1, jI (r1222.2.1 + 1), jI v2, jI v3, cFn c] [(bV (fl e_i64 r1222.1) 3)] (.tup []) [(bV (fl e_i64 r1234) 3)])) :: (.tr (.eqt (.t 0) (.vec 0 r1234.length 1))) :: (cs 2 []))))))))))) [0] (by kernel_rfl) (by kernel_rfl) (aO g310 (aO g312 (k2 (dF c1228) (k2 h1233 (k2 ((fspec_ok _ (hrec_sPdq c r1222.1 (r1222.2.1 + 1) v2 v3 r1234 h1235)) : SpecOk Tryz.prog G0 93 (fspec 1 [0] [.vec 0 r1222.1.length 1, jI (r1222.2.1 + 1), jI v2, jI v3, cFn c] [(bV (fl e_i64 r1222.1) 3)] (.tup []) [(bV (fl e_i64 r1234) 3)])) (k2 (⟨rfl, rfl, trivial⟩ : (([.vec 0 r1222.1.length 1, jI (r1222.2.1 + 1), jI v2, jI v3, cFn c] : List AV) = [.vec 0 r1222.1.length 1, jI (r1222.2.1 + 1), jI v2, jI v3, cFn c]) ∧ (some (Ob.blk (bV (fl e_i64 r1222.1) 3)) = some (Ob.blk (bV (fl e_i64 r1222.1) 3))) ∧ True) (ok1 ((congrArg (fun q => AV.vec 0 q 1) h1236.symm) : (.vec 0 r1222.1.length 1 : AV) = .vec 0 r1234.length 1))))))))
  ·obtain ⟨r1237, h1238, h⟩ := bnS h
   obtain ⟨h1239, h⟩ := gdS h
   obtain rfl := oI h
   exact Does.of_viewM 1 400 (f308 ++ (f309 ++ (bt :: (cs 6 ((.spec (fspec 1 [0] [.vec 0 b0.length 1, jI v1, jI v2, jI v13, cFn c] [(bV (fl e_i64 b0) 3)] (jI r1237.2) [(bV (fl e_i64 r1237.1) 3)])) :: (.tr (.eqt (.t 0) (.vec 0 r1237.1.length 1))) :: (cs 3 [])))))) [0] (by kernel_rfl) (by kernel_rfl) (aO g310 (k2 (not_t (dF c1221)) (k2 ((fspec_ok _ (sPartEq_ret c b0 v1 v2 v13 r1237 h1238)) : SpecOk Tryz.prog G0 141 (fspec 1 [0] [.vec 0 b0.length 1, jI v1, jI v2, jI v13, cFn c] [(bV (fl e_i64 b0) 3)] (jI r1237.2) [(bV (fl e_i64 r1237.1) 3)])) (k2 (⟨rfl, rfl, trivial⟩ : (([.vec 0 b0.length 1, jI v1, jI v2, jI v13, cFn c] : List AV) = [.vec 0 b0.length 1, jI v1, jI v2, jI v13, cFn c]) ∧ (some (Ob.blk (bV (fl e_i64 b0) 3)) = some (Ob.blk (bV (fl e_i64 b0) 3))) ∧ True) (ok1 ((congrArg (fun q => AV.vec 0 q 1) h1239.symm) : (.vec 0 b0.length 1 : AV) = .vec 0 r1237.1.length 1))))))
 ·obtain ⟨r1240, h1241, h⟩ := bnS h
  obtain ⟨h1242, h⟩ := gdS h
  obtain ⟨h1243, h⟩ := gdS h
  obtain ⟨h1244, h⟩ := gdS h
  obtain ⟨h1245, h⟩ := gdS h
  let f313 : List CH := (oF :: oF :: oF :: oF :: oF :: oF :: oF :: oF :: oF :: oF :: oF :: oF :: oF :: (.op none (.b false)) :: bf :: (cs 6 ((.spec (fspec 1 [0] [.vec 0 b0.length 1, .int .i64 v1, .int .i64 v2, .int .i64 v13, cFn c] [(bV (fl e_i64 b0) 3)] (.tup [.int .i64 r1240.2.1, .bool r1240.2.2]) [(bV (fl e_i64 r1240.1) 3)])) :: (.tr (.eqt (.t 0) (.vec 0 r1240.1.length 1))) :: (cs 9 (ow :: (cs 2 (ow :: (cs 3 (ow :: (cs 3 [oa]))))))))))
  have g314 := k2 (dF c1211) (k2 (dF c1211) (k2 (dF c1211) (k2 (dF c1211) (k2 (dF c1211) (k2 (dF c1211) (k2 (dF c1211) (k2 (dF c1211) (k2 (dF c1211) (k2 (dF c1211) (k2 (dF c1211) (k2 (dF c1211) (k2 (dF c1211) (k2 (dF c1211) (k2 (rfl : false = false) (k2 ((fspec_ok _ (sPart_ret c b0 v1 v2 v13 r1240 h1241)) : SpecOk Tryz.prog G0 142 (fspec 1 [0] [.vec 0 b0.length 1, .int .i64 v1, .int .i64 v2, .int .i64 v13, cFn c] [(bV (fl e_i64 b0) 3)] (.tup [.int .i64 r1240.2.1, .bool r1240.2.2]) [(bV (fl e_i64 r1240.1) 3)])) (k2 (⟨rfl, rfl, trivial⟩ : (([.vec 0 b0.length 1, .int .i64 v1, .int .i64 v2, .int .i64 v13, cFn c] : List AV) = [.vec 0 b0.length 1, .int .i64 v1, .int .i64 v2, .int .i64 v13, cFn c]) ∧ (some (Ob.blk (bV (fl e_i64 b0) 3)) = some (Ob.blk (bV (fl e_i64 b0) 3))) ∧ True) (k2 ((congrArg (fun q => AV.vec 0 q 1) h1242.symm) : (.vec 0 b0.length 1 : AV) = .vec 0 r1240.1.length 1) (k2 h1243 (k2 h1244 (k2 ((by decide) : 8 ≠ (0 : Int)) (ok1 h1245)))))))))))))))))))))
  rcases itS h with ⟨c1246, h⟩ | ⟨c1246, h⟩
  ·obtain ⟨r1247, h1248, h⟩ := bnS h
   obtain ⟨h1249, h⟩ := gdS h
   obtain ⟨h1250, h⟩ := gdS h
   obtain rfl := oI h
   exact Does.of_viewM 1 400 (f308 ++ (f313 ++ (bt :: (cs 2 (oa :: (cs 7 [.spec (fspec 1 [0] [.vec 0 r1240.1.length 1, jI v1, jI r1240.2.1, jI v3, cFn c] [(bV (fl e_i64 r1240.1) 3)] (.tup []) [(bV (fl e_i64 r1247) 3)]), .tr (.eqt (.t 0) (.vec 0 r1247.length 1)), oc, ow, oc])))))) [0] (by kernel_rfl) (by kernel_rfl) (aO g314 (k2 (dT c1246) (k2 ((fspec_ok _ (hrec_sPdq c r1240.1 v1 r1240.2.1 v3 r1247 h1248)) : SpecOk Tryz.prog G0 93 (fspec 1 [0] [.vec 0 r1240.1.length 1, jI v1, jI r1240.2.1, jI v3, cFn c] [(bV (fl e_i64 r1240.1) 3)] (.tup []) [(bV (fl e_i64 r1247) 3)])) (k2 (⟨rfl, rfl, trivial⟩ : (([.vec 0 r1240.1.length 1, jI v1, jI r1240.2.1, jI v3, cFn c] : List AV) = [.vec 0 r1240.1.length 1, jI v1, jI r1240.2.1, jI v3, cFn c]) ∧ (some (Ob.blk (bV (fl e_i64 r1240.1) 3)) = some (Ob.blk (bV (fl e_i64 r1240.1) 3))) ∧ True) (k2 ((congrArg (fun q => AV.vec 0 q 1) h1249.symm) : (.vec 0 r1240.1.length 1 : AV) = .vec 0 r1247.length 1) (ok1 h1250))))))
  ·obtain ⟨h1251, h⟩ := gdS h
   obtain ⟨r1252, h1253, h⟩ := bnS h
   obtain ⟨h1254, h⟩ := gdS h
   obtain rfl := oI h
   exact Does.of_viewM 1 400 (f308 ++ (f313 ++ (bf :: (cs 2 (oa :: (cs 3 (ow :: (cs 4 ((.spec (fspec 1 [0] [.vec 0 r1240.1.length 1, jI (r1240.2.1 + 1), jI v2, jI v3, cFn c] [(bV (fl e_i64 r1240.1) 3)] (.tup []) [(bV (fl e_i64 r1252) 3)])) :: (.tr (.eqt (.t 0) (.vec 0 r1252.length 1))) :: (cs 2 [])))))))))) [0] (by kernel_rfl) (by kernel_rfl) (aO g314 (k2 (dF c1246) (k2 h1251 (k2 ((fspec_ok _ (hrec_sPdq c r1240.1 (r1240.2.1 + 1) v2 v3 r1252 h1253)) : SpecOk Tryz.prog G0 93 (fspec 1 [0] [.vec 0 r1240.1.length 1, jI (r1240.2.1 + 1), jI v2, jI v3, cFn c] [(bV (fl e_i64 r1240.1) 3)] (.tup []) [(bV (fl e_i64 r1252) 3)])) (k2 (⟨rfl, rfl, trivial⟩ : (([.vec 0 r1240.1.length 1, jI (r1240.2.1 + 1), jI v2, jI v3, cFn c] : List AV) = [.vec 0 r1240.1.length 1, jI (r1240.2.1 + 1), jI v2, jI v3, cFn c]) ∧ (some (Ob.blk (bV (fl e_i64 r1240.1) 3)) = some (Ob.blk (bV (fl e_i64 r1240.1) 3))) ∧ True) (ok1 ((congrArg (fun q => AV.vec 0 q 1) h1254.symm) : (.vec 0 r1240.1.length 1 : AV) = .vec 0 r1252.length 1)))))))
def sPdq_J1062_step (rec_sPdq : TB → (List Int) → Int → Int → Int → Option (List Int)) (c : TB) : (Int × Int × Int × Bool × Bool × Int × Int × Int × (List Int)) → Option ((List Int) ⊕ (Int × Int × Int × Bool × Bool × (List Int)) ⊕ (Int × Int × Int × Bool × Bool × (List Int)))
 | (v1, v2, v3, v10, v11, v12, v13, v14, b0) =>
  if v10 = true then
   if v11 = true then
    if v14 = (1 : Int) then
     (sPartial c b0 v1 v2).bind fun r1162 =>
     if r1162.1.length = b0.length then
      if r1162.2 = true then
       some ((Sum.inl r1162.1))
      else
       (sPdq_J1166_step rec_sPdq c (v1, v2, v3, v10, v11, v12, v13, r1162.1)).bind fun qq => match qq with
       | Sum.inl o1166 =>
        some ((Sum.inr (Sum.inl (o1166.1, o1166.2.1, o1166.2.2.1, o1166.2.2.2.1, o1166.2.2.2.2.1, o1166.2.2.2.2.2))))
       | Sum.inr (o1166) =>
        some ((Sum.inr (Sum.inr ((o1166.1, o1166.2.1, o1166.2.2.1, o1166.2.2.2.1, o1166.2.2.2.2.1, o1166.2.2.2.2.2)))))
     else none
    else
     (sPdq_J1166_step rec_sPdq c (v1, v2, v3, v10, v11, v12, v13, b0)).bind fun qq => match qq with
     | Sum.inl o1166 =>
      some ((Sum.inr (Sum.inl (o1166.1, o1166.2.1, o1166.2.2.1, o1166.2.2.2.1, o1166.2.2.2.2.1, o1166.2.2.2.2.2))))
     | Sum.inr (o1166) =>
      some ((Sum.inr (Sum.inr ((o1166.1, o1166.2.1, o1166.2.2.1, o1166.2.2.2.1, o1166.2.2.2.2.1, o1166.2.2.2.2.2)))))
   else
    (sPdq_J1166_step rec_sPdq c (v1, v2, v3, v10, v11, v12, v13, b0)).bind fun qq => match qq with
    | Sum.inl o1166 =>
     some ((Sum.inr (Sum.inl (o1166.1, o1166.2.1, o1166.2.2.1, o1166.2.2.2.1, o1166.2.2.2.2.1, o1166.2.2.2.2.2))))
    | Sum.inr (o1166) =>
     some ((Sum.inr (Sum.inr ((o1166.1, o1166.2.1, o1166.2.2.1, o1166.2.2.2.1, o1166.2.2.2.2.1, o1166.2.2.2.2.2)))))
  else
   (sPdq_J1166_step rec_sPdq c (v1, v2, v3, v10, v11, v12, v13, b0)).bind fun qq => match qq with
   | Sum.inl o1166 =>
    some ((Sum.inr (Sum.inl (o1166.1, o1166.2.1, o1166.2.2.1, o1166.2.2.2.1, o1166.2.2.2.2.1, o1166.2.2.2.2.2))))
   | Sum.inr (o1166) =>
    some ((Sum.inr (Sum.inr ((o1166.1, o1166.2.1, o1166.2.2.1, o1166.2.2.2.1, o1166.2.2.2.2.1, o1166.2.2.2.2.2)))))
def sPdq_J1062_H (rec_sPdq : TB → (List Int) → Int → Int → Int → Option (List Int)) (c : TB) : (Int × Int × Int × Bool × Bool × Int × Int × Int × (List Int)) → St := fun (s : (Int × Int × Int × Bool × Bool × Int × Int × Int × (List Int))) => S 148 [(0, .vec 0 s.2.2.2.2.2.2.2.2.length 1), (1, .int .i64 s.1), (2, .int .i64 s.2.1), (3, .int .i64 s.2.2.1), (4, cFn c), (10, .bool s.2.2.2.1), (11, .bool s.2.2.2.2.1), (12, .int .i64 s.2.2.2.2.2.1), (13, .int .i64 s.2.2.2.2.2.2.1), (14, .int .i64 s.2.2.2.2.2.2.2.1)] [(bV (fl e_i64 s.2.2.2.2.2.2.2.2) 3)]
def sPdq_J1062_X (rec_sPdq : TB → (List Int) → Int → Int → Int → Option (List Int)) (c : TB) : ((List Int) ⊕ (Int × Int × Int × Bool × Bool × (List Int)) ⊕ (Int × Int × Int × Bool × Bool × (List Int))) → AEx := fun q => match q with | Sum.inl o => .ret | Sum.inr (Sum.inl o) => .normal | Sum.inr (Sum.inr (o)) => (.exit 1)
def sPdq_J1062_T (rec_sPdq : TB → (List Int) → Int → Int → Int → Option (List Int)) (c : TB) : ((List Int) ⊕ (Int × Int × Int × Bool × Bool × (List Int)) ⊕ (Int × Int × Int × Bool × Bool × (List Int))) → List (Nat × AV) := fun q => match q with | Sum.inl o => [] | Sum.inr (Sum.inl o) => [(0, .vec 0 o.2.2.2.2.2.length 1), (1, .int .i64 o.1), (2, .int .i64 o.2.1), (3, .int .i64 o.2.2.1), (4, cFn c), (10, .bool o.2.2.2.1), (11, .bool o.2.2.2.2.1)] | Sum.inr (Sum.inr (o)) => [(0, .vec 0 o.2.2.2.2.2.length 1), (1, .int .i64 o.1), (2, .int .i64 o.2.1), (3, .int .i64 o.2.2.1), (4, cFn c), (10, .bool o.2.2.2.1), (11, .bool o.2.2.2.2.1)]
def sPdq_J1062_B (rec_sPdq : TB → (List Int) → Int → Int → Int → Option (List Int)) (c : TB) : ((List Int) ⊕ (Int × Int × Int × Bool × Bool × (List Int)) ⊕ (Int × Int × Int × Bool × Bool × (List Int))) → List Blk := fun q => match q with | Sum.inl o => [(bV (fl e_i64 o) 3)] | Sum.inr (Sum.inl o) => [(bV (fl e_i64 o.2.2.2.2.2) 3)] | Sum.inr (Sum.inr (o)) => [(bV (fl e_i64 o.2.2.2.2.2) 3)]
def sPdq_J1062_E (rec_sPdq : TB → (List Int) → Int → Int → Int → Option (List Int)) (c : TB) (q : (List Int) ⊕ (Int × Int × Int × Bool × Bool × (List Int)) ⊕ (Int × Int × Int × Bool × Bool × (List Int))) : St := S 148 (sPdq_J1062_T rec_sPdq c q) (sPdq_J1062_B rec_sPdq c q)
theorem sPdq_J1062_does (rec_sPdq : TB → (List Int) → Int → Int → Int → Option (List Int)) (c : TB) (hrec_sPdq : ∀ (z0 : TB) (z1 : (List Int)) (z2 : Int) (z3 : Int) (z4 : Int) (r : (List Int)), rec_sPdq z0 z1 z2 z3 z4 = some r → CallsM Tryz.prog G0 1 93 [.vec 0 z1.length 1, .int .i64 z2, .int .i64 z3, .int .i64 z4, .fn (.func 74) [.agg [.lst (fl TC.enc z0.ucharges) z0.ucharges.length]] []] [(bV (fl e_i64 z1) 3)] (.tup []) [(bV (fl e_i64 r) 3)]) {s : (Int × Int × Int × Bool × Bool × Int × Int × Int × (List Int))} {r : (List Int) ⊕ (Int × Int × Int × Bool × Bool × (List Int)) ⊕ (Int × Int × Int × Bool × Bool × (List Int))} (h : sPdq_J1062_step rec_sPdq c s = some r) : Does Tryz.prog G0 1 (bodyAt Tryz.prog 93 [1, 1, 0, 0, 0, 1, 1, 1, 1, 1, 1]) (sPdq_J1062_H rec_sPdq c s) (sPdq_J1062_X rec_sPdq c r) (sPdq_J1062_E rec_sPdq c r) := by
 obtain ⟨v1, v2, v3, v10, v11, v12, v13, v14, b0⟩ := s
 unfold sPdq_J1062_step at h
 try dsimp only at h
 rcases itS h with ⟨c1159, h⟩ | ⟨c1159, h⟩
 ·let f315 : List CH := (cs 2 (tc :: (cs 2 [])))
  rcases itS h with ⟨c1160, h⟩ | ⟨c1160, h⟩
  ·let f316 : List CH := [tc, oa, oc]
   rcases itS h with ⟨c1161, h⟩ | ⟨c1161, h⟩
   ·obtain ⟨r1162, h1163, h⟩ := bnS h
    obtain ⟨h1164, h⟩ := gdS h
    let f317 : List CH := (bt :: (cs 5 [.spec (fspec 1 [0] [.vec 0 b0.length 1, .int .i64 v1, .int .i64 v2, cFn c] [(bV (fl e_i64 b0) 3)] (.bool r1162.2) [(bV (fl e_i64 r1162.1) 3)]), .tr (.eqt (.t 0) (.vec 0 r1162.1.length 1))]))
    have g318 := k2 c1159 (k2 c1160 (k2 (beq_t c1161) (k2 ((fspec_ok _ (sPartial_ret c b0 v1 v2 r1162 h1163)) : SpecOk Tryz.prog G0 140 (fspec 1 [0] [.vec 0 b0.length 1, .int .i64 v1, .int .i64 v2, cFn c] [(bV (fl e_i64 b0) 3)] (.bool r1162.2) [(bV (fl e_i64 r1162.1) 3)])) (k2 (⟨rfl, rfl, trivial⟩ : (([.vec 0 b0.length 1, .int .i64 v1, .int .i64 v2, cFn c] : List AV) = [.vec 0 b0.length 1, .int .i64 v1, .int .i64 v2, cFn c]) ∧ (some (Ob.blk (bV (fl e_i64 b0) 3)) = some (Ob.blk (bV (fl e_i64 b0) 3))) ∧ True) (ok1 ((congrArg (fun q => AV.vec 0 q 1) h1164.symm) : (.vec 0 b0.length 1 : AV) = .vec 0 r1162.1.length 1))))))
    rcases itS h with ⟨c1165, h⟩ | ⟨c1165, h⟩
    ·obtain rfl := oI h
     exact Does.of_viewM 1 400 (f315 ++ (f316 ++ (f317 ++ [.br true]))) [0] (by kernel_rfl) (by kernel_rfl) (aO g318 (ok1 c1165))
    ·obtain ⟨qq, hl1166, h⟩ := bnS h
     rcases qq with o1166 | o1166
     ·dsimp only at h
      obtain rfl := oI h
      exact Does.of_viewM 1 400 (f315 ++ (f316 ++ (f317 ++ [.br false, .fcuta 1 1 .normal (sPdq_J1166_T rec_sPdq c (Sum.inl o1166)) [(bV (fl e_i64 o1166.2.2.2.2.2) 3)] [0] [(0, .any), (1, .any), (2, .any), (3, .any), (4, .any), (10, .any), (11, .any), (12, .any), (13, .any)] [bS]]))) [0] (by kernel_rfl) (by kernel_rfl) (aO g318 (k2 ((eq_false_of_ne_true c1165) : r1162.2 = false) (ok1 (sPdq_J1166_does rec_sPdq c hrec_sPdq (s := (v1, v2, v3, v10, v11, v12, v13, r1162.1)) (r := Sum.inl o1166) hl1166))))
     ·dsimp only at h
      obtain rfl := oI h
      exact Does.of_viewM 1 400 (f315 ++ (f316 ++ (f317 ++ [.br false, .fcuta 1 1 (.exit 1) (sPdq_J1166_T rec_sPdq c (Sum.inr (o1166))) [(bV (fl e_i64 o1166.2.2.2.2.2) 3)] [0] [(0, .any), (1, .any), (2, .any), (3, .any), (4, .any), (10, .any), (11, .any), (12, .any), (13, .any)] [bS]]))) [0] (by kernel_rfl) (by kernel_rfl) (aO g318 (k2 ((eq_false_of_ne_true c1165) : r1162.2 = false) (ok1 (sPdq_J1166_does rec_sPdq c hrec_sPdq (s := (v1, v2, v3, v10, v11, v12, v13, r1162.1)) (r := Sum.inr (o1166)) hl1166))))
   ·have g319 := k2 c1159 (k2 c1160 (ok1 (beq_f c1161)))
    obtain ⟨qq, hl1166, h⟩ := bnS h
    rcases qq with o1166 | o1166
    ·dsimp only at h
     obtain rfl := oI h
     exact Does.of_viewM 1 400 (f315 ++ (f316 ++ [.br false, .fcuta 1 1 .normal (sPdq_J1166_T rec_sPdq c (Sum.inl o1166)) [(bV (fl e_i64 o1166.2.2.2.2.2) 3)] [0] [(0, .any), (1, .any), (2, .any), (3, .any), (4, .any), (10, .any), (11, .any), (12, .any), (13, .any)] [bS]])) [0] (by kernel_rfl) (by kernel_rfl) (aO g319 (ok1 (sPdq_J1166_does rec_sPdq c hrec_sPdq (s := (v1, v2, v3, v10, v11, v12, v13, b0)) (r := Sum.inl o1166) hl1166)))
    ·dsimp only at h
     obtain rfl := oI h
     exact Does.of_viewM 1 400 (f315 ++ (f316 ++ [.br false, .fcuta 1 1 (.exit 1) (sPdq_J1166_T rec_sPdq c (Sum.inr (o1166))) [(bV (fl e_i64 o1166.2.2.2.2.2) 3)] [0] [(0, .any), (1, .any), (2, .any), (3, .any), (4, .any), (10, .any), (11, .any), (12, .any), (13, .any)] [bS]])) [0] (by kernel_rfl) (by kernel_rfl) (aO g319 (ok1 (sPdq_J1166_does rec_sPdq c hrec_sPdq (s := (v1, v2, v3, v10, v11, v12, v13, b0)) (r := Sum.inr (o1166)) hl1166)))
  ·let f320 : List CH := (oF :: (cs 2 [.br false]))
   have g321 := k2 c1159 (k2 ((eq_false_of_ne_true c1160) : v11 = false) (ok1 (rfl : false = false)))
   obtain ⟨qq, hl1166, h⟩ := bnS h
   rcases qq with o1166 | o1166
   ·dsimp only at h
    obtain rfl := oI h
    exact Does.of_viewM 1 400 (f315 ++ (f320 ++ [.fcuta 1 1 .normal (sPdq_J1166_T rec_sPdq c (Sum.inl o1166)) [(bV (fl e_i64 o1166.2.2.2.2.2) 3)] [0] [(0, .any), (1, .any), (2, .any), (3, .any), (4, .any), (10, .any), (11, .any), (12, .any), (13, .any)] [bS]])) [0] (by kernel_rfl) (by kernel_rfl) (aO g321 (ok1 (sPdq_J1166_does rec_sPdq c hrec_sPdq (s := (v1, v2, v3, v10, v11, v12, v13, b0)) (r := Sum.inl o1166) hl1166)))
   ·dsimp only at h
    obtain rfl := oI h
    exact Does.of_viewM 1 400 (f315 ++ (f320 ++ [.fcuta 1 1 (.exit 1) (sPdq_J1166_T rec_sPdq c (Sum.inr (o1166))) [(bV (fl e_i64 o1166.2.2.2.2.2) 3)] [0] [(0, .any), (1, .any), (2, .any), (3, .any), (4, .any), (10, .any), (11, .any), (12, .any), (13, .any)] [bS]])) [0] (by kernel_rfl) (by kernel_rfl) (aO g321 (ok1 (sPdq_J1166_does rec_sPdq c hrec_sPdq (s := (v1, v2, v3, v10, v11, v12, v13, b0)) (r := Sum.inr (o1166)) hl1166)))
 ·let f322 : List CH := (cs 2 (oF :: (cs 5 [.br false])))
  obtain ⟨qq, hl1166, h⟩ := bnS h
  rcases qq with o1166 | o1166
  ·dsimp only at h
   obtain rfl := oI h
   exact Does.of_viewM 1 400 (f322 ++ [.fcuta 1 1 .normal (sPdq_J1166_T rec_sPdq c (Sum.inl o1166)) [(bV (fl e_i64 o1166.2.2.2.2.2) 3)] [0] [(0, .any), (1, .any), (2, .any), (3, .any), (4, .any), (10, .any), (11, .any), (12, .any), (13, .any)] [bS]]) [0] (by kernel_rfl) (by kernel_rfl) (k2 ((eq_false_of_ne_true c1159) : v10 = false) (k2 (rfl : false = false) (ok1 (sPdq_J1166_does rec_sPdq c hrec_sPdq (s := (v1, v2, v3, v10, v11, v12, v13, b0)) (r := Sum.inl o1166) hl1166))))
  ·dsimp only at h
   obtain rfl := oI h
   exact Does.of_viewM 1 400 (f322 ++ [.fcuta 1 1 (.exit 1) (sPdq_J1166_T rec_sPdq c (Sum.inr (o1166))) [(bV (fl e_i64 o1166.2.2.2.2.2) 3)] [0] [(0, .any), (1, .any), (2, .any), (3, .any), (4, .any), (10, .any), (11, .any), (12, .any), (13, .any)] [bS]]) [0] (by kernel_rfl) (by kernel_rfl) (k2 ((eq_false_of_ne_true c1159) : v10 = false) (k2 (rfl : false = false) (ok1 (sPdq_J1166_does rec_sPdq c hrec_sPdq (s := (v1, v2, v3, v10, v11, v12, v13, b0)) (r := Sum.inr (o1166)) hl1166))))
def sPdq_J850_step (rec_sPdq : TB → (List Int) → Int → Int → Int → Option (List Int)) (c : TB) : (Int × Int × Int × Bool × Bool × Int × (List Int)) → Option ((List Int) ⊕ (Int × Int × Int × Bool × Bool × (List Int)) ⊕ (Int × Int × Int × Bool × Bool × (List Int)))
 | (v1, v2, v3, v10, v11, v12, b0) =>
  (sChoose c b0 v1 v2).bind fun r1053 =>
  if r1053.2 = (2 : Int) then
   (sReverse c b0 v1 v2).bind fun r1056 =>
   if r1056.length = b0.length then
    if InR .i64 (v2 - 1) then
     if InR .i64 (r1053.1 - v1) then
      if InR .i64 ((v2 - 1) - (r1053.1 - v1)) then
       (sPdq_J1062_step rec_sPdq c (v1, v2, v3, v10, v11, v12, ((v2 - 1) - (r1053.1 - v1)), (1 : Int), r1056)).bind fun qq => match qq with
       | Sum.inl o1062 =>
        some ((Sum.inl o1062))
       | Sum.inr (Sum.inl o1062) =>
        some ((Sum.inr (Sum.inl (o1062.1, o1062.2.1, o1062.2.2.1, o1062.2.2.2.1, o1062.2.2.2.2.1, o1062.2.2.2.2.2))))
       | Sum.inr (Sum.inr (o1062)) =>
        some ((Sum.inr (Sum.inr ((o1062.1, o1062.2.1, o1062.2.2.1, o1062.2.2.2.1, o1062.2.2.2.2.1, o1062.2.2.2.2.2)))))
      else none
     else none
    else none
   else none
  else
   (sPdq_J1062_step rec_sPdq c (v1, v2, v3, v10, v11, v12, r1053.1, r1053.2, b0)).bind fun qq => match qq with
   | Sum.inl o1062 =>
    some ((Sum.inl o1062))
   | Sum.inr (Sum.inl o1062) =>
    some ((Sum.inr (Sum.inl (o1062.1, o1062.2.1, o1062.2.2.1, o1062.2.2.2.1, o1062.2.2.2.2.1, o1062.2.2.2.2.2))))
   | Sum.inr (Sum.inr (o1062)) =>
    some ((Sum.inr (Sum.inr ((o1062.1, o1062.2.1, o1062.2.2.1, o1062.2.2.2.1, o1062.2.2.2.2.1, o1062.2.2.2.2.2)))))
def sPdq_J850_H (rec_sPdq : TB → (List Int) → Int → Int → Int → Option (List Int)) (c : TB) : (Int × Int × Int × Bool × Bool × Int × (List Int)) → St := fun (s : (Int × Int × Int × Bool × Bool × Int × (List Int))) => S 148 [(0, .vec 0 s.2.2.2.2.2.2.length 1), (1, .int .i64 s.1), (2, .int .i64 s.2.1), (3, .int .i64 s.2.2.1), (4, cFn c), (10, .bool s.2.2.2.1), (11, .bool s.2.2.2.2.1), (12, .int .i64 s.2.2.2.2.2.1)] [(bV (fl e_i64 s.2.2.2.2.2.2) 3)]
def sPdq_J850_X (rec_sPdq : TB → (List Int) → Int → Int → Int → Option (List Int)) (c : TB) : ((List Int) ⊕ (Int × Int × Int × Bool × Bool × (List Int)) ⊕ (Int × Int × Int × Bool × Bool × (List Int))) → AEx := fun q => match q with | Sum.inl o => .ret | Sum.inr (Sum.inl o) => .normal | Sum.inr (Sum.inr (o)) => (.exit 1)
def sPdq_J850_T (rec_sPdq : TB → (List Int) → Int → Int → Int → Option (List Int)) (c : TB) : ((List Int) ⊕ (Int × Int × Int × Bool × Bool × (List Int)) ⊕ (Int × Int × Int × Bool × Bool × (List Int))) → List (Nat × AV) := fun q => match q with | Sum.inl o => [] | Sum.inr (Sum.inl o) => [(0, .vec 0 o.2.2.2.2.2.length 1), (1, .int .i64 o.1), (2, .int .i64 o.2.1), (3, .int .i64 o.2.2.1), (4, cFn c), (10, .bool o.2.2.2.1), (11, .bool o.2.2.2.2.1)] | Sum.inr (Sum.inr (o)) => [(0, .vec 0 o.2.2.2.2.2.length 1), (1, .int .i64 o.1), (2, .int .i64 o.2.1), (3, .int .i64 o.2.2.1), (4, cFn c), (10, .bool o.2.2.2.1), (11, .bool o.2.2.2.2.1)]
def sPdq_J850_B (rec_sPdq : TB → (List Int) → Int → Int → Int → Option (List Int)) (c : TB) : ((List Int) ⊕ (Int × Int × Int × Bool × Bool × (List Int)) ⊕ (Int × Int × Int × Bool × Bool × (List Int))) → List Blk := fun q => match q with | Sum.inl o => [(bV (fl e_i64 o) 3)] | Sum.inr (Sum.inl o) => [(bV (fl e_i64 o.2.2.2.2.2) 3)] | Sum.inr (Sum.inr (o)) => [(bV (fl e_i64 o.2.2.2.2.2) 3)]
def sPdq_J850_E (rec_sPdq : TB → (List Int) → Int → Int → Int → Option (List Int)) (c : TB) (q : (List Int) ⊕ (Int × Int × Int × Bool × Bool × (List Int)) ⊕ (Int × Int × Int × Bool × Bool × (List Int))) : St := S 148 (sPdq_J850_T rec_sPdq c q) (sPdq_J850_B rec_sPdq c q)
theorem sPdq_J850_does (rec_sPdq : TB → (List Int) → Int → Int → Int → Option (List Int)) (c : TB) (hrec_sPdq : ∀ (z0 : TB) (z1 : (List Int)) (z2 : Int) (z3 : Int) (z4 : Int) (r : (List Int)), rec_sPdq z0 z1 z2 z3 z4 = some r → CallsM Tryz.prog G0 1 93 [.vec 0 z1.length 1, .int .i64 z2, .int .i64 z3, .int .i64 z4, .fn (.func 74) [.agg [.lst (fl TC.enc z0.ucharges) z0.ucharges.length]] []] [(bV (fl e_i64 z1) 3)] (.tup []) [(bV (fl e_i64 r) 3)]) {s : (Int × Int × Int × Bool × Bool × Int × (List Int))} {r : (List Int) ⊕ (Int × Int × Int × Bool × Bool × (List Int)) ⊕ (Int × Int × Int × Bool × Bool × (List Int))} (h : sPdq_J850_step rec_sPdq c s = some r) : Does Tryz.prog G0 1 (bodyAt Tryz.prog 93 [1, 1, 0, 0, 0, 1, 1, 1, 1]) (sPdq_J850_H rec_sPdq c s) (sPdq_J850_X rec_sPdq c r) (sPdq_J850_E rec_sPdq c r) := by
 obtain ⟨v1, v2, v3, v10, v11, v12, b0⟩ := s
 unfold sPdq_J850_step at h
 try dsimp only at h
 obtain ⟨r1053, h1054, h⟩ := bnS h
 let f323 : List CH := (cs 5 ((.spec (fspec 1 [0] [.vec 0 b0.length 1, .int .i64 v1, .int .i64 v2, cFn c] [(bV (fl e_i64 b0) 3)] (.tup [.int .i64 r1053.1, .int .i64 r1053.2]) [(bV (fl e_i64 b0) 3)])) :: (cs 6 [oa])))
 rcases itS h with ⟨c1055, h⟩ | ⟨c1055, h⟩
 ·obtain ⟨r1056, h1057, h⟩ := bnS h
  obtain ⟨h1058, h⟩ := gdS h
  obtain ⟨h1059, h⟩ := gdS h
  obtain ⟨h1060, h⟩ := gdS h
  obtain ⟨h1061, h⟩ := gdS h
  let f324 : List CH := (bt :: (cs 5 ((.spec (fspec 1 [0] [.vec 0 b0.length 1, .int .i64 v1, .int .i64 v2, cFn c] [(bV (fl e_i64 b0) 3)] (.tup []) [(bV (fl e_i64 r1056) 3)])) :: (.tr (.eqt (.t 0) (.vec 0 r1056.length 1))) :: oc :: ow :: (cs 2 (ow :: ow :: (cs 2 []))))))
  have g325 := k2 ((fspec_ok _ (sChoose_ret c b0 v1 v2 r1053 h1054)) : SpecOk Tryz.prog G0 138 (fspec 1 [0] [.vec 0 b0.length 1, .int .i64 v1, .int .i64 v2, cFn c] [(bV (fl e_i64 b0) 3)] (.tup [.int .i64 r1053.1, .int .i64 r1053.2]) [(bV (fl e_i64 b0) 3)])) (k2 (⟨rfl, rfl, trivial⟩ : (([.vec 0 b0.length 1, .int .i64 v1, .int .i64 v2, cFn c] : List AV) = [.vec 0 b0.length 1, .int .i64 v1, .int .i64 v2, cFn c]) ∧ (some (Ob.blk (bV (fl e_i64 b0) 3)) = some (Ob.blk (bV (fl e_i64 b0) 3))) ∧ True) (k2 (beq_t c1055) (k2 ((fspec_ok _ (sReverse_ret c b0 v1 v2 r1056 h1057)) : SpecOk Tryz.prog G0 139 (fspec 1 [0] [.vec 0 b0.length 1, .int .i64 v1, .int .i64 v2, cFn c] [(bV (fl e_i64 b0) 3)] (.tup []) [(bV (fl e_i64 r1056) 3)])) (k2 (⟨rfl, rfl, trivial⟩ : (([.vec 0 b0.length 1, .int .i64 v1, .int .i64 v2, cFn c] : List AV) = [.vec 0 b0.length 1, .int .i64 v1, .int .i64 v2, cFn c]) ∧ (some (Ob.blk (bV (fl e_i64 b0) 3)) = some (Ob.blk (bV (fl e_i64 b0) 3))) ∧ True) (k2 ((congrArg (fun q => AV.vec 0 q 1) h1058.symm) : (.vec 0 b0.length 1 : AV) = .vec 0 r1056.length 1) (k2 h1059 (k2 h1060 (k2 h1061 (ok1 (rfl : (.int .i64 1 : AV) = .int .i64 (1 : Int)))))))))))
  obtain ⟨qq, hl1062, h⟩ := bnS h
  rcases qq with o1062 | (o1062 | o1062)
  ·dsimp only at h
   obtain rfl := oI h
   exact Does.of_viewM 1 400 (f323 ++ (f324 ++ [.fcuta 0 1 .ret [] [(bV (fl e_i64 o1062) 3)] [0] [(0, .any), (1, .any), (2, .any), (3, .any), (4, .any), (10, .any), (11, .any), (12, .any), (13, .any), (14, jI (1 : Int))] [bS]])) [0] (by kernel_rfl) (by kernel_rfl) (aO g325 (ok1 (sPdq_J1062_does rec_sPdq c hrec_sPdq (s := (v1, v2, v3, v10, v11, v12, ((v2 - 1) - (r1053.1 - v1)), (1 : Int), r1056)) (r := Sum.inl o1062) hl1062)))
  ·dsimp only at h
   obtain rfl := oI h
   exact Does.of_viewM 1 400 (f323 ++ (f324 ++ [.fcuta 0 1 .normal (sPdq_J1062_T rec_sPdq c (Sum.inr (Sum.inl o1062))) [(bV (fl e_i64 o1062.2.2.2.2.2) 3)] [0] [(0, .any), (1, .any), (2, .any), (3, .any), (4, .any), (10, .any), (11, .any), (12, .any), (13, .any), (14, jI (1 : Int))] [bS]])) [0] (by kernel_rfl) (by kernel_rfl) (aO g325 (ok1 (sPdq_J1062_does rec_sPdq c hrec_sPdq (s := (v1, v2, v3, v10, v11, v12, ((v2 - 1) - (r1053.1 - v1)), (1 : Int), r1056)) (r := Sum.inr (Sum.inl o1062)) hl1062)))
  ·dsimp only at h
   obtain rfl := oI h
   exact Does.of_viewM 1 400 (f323 ++ (f324 ++ [.fcuta 0 1 (.exit 1) (sPdq_J1062_T rec_sPdq c (Sum.inr (Sum.inr (o1062)))) [(bV (fl e_i64 o1062.2.2.2.2.2) 3)] [0] [(0, .any), (1, .any), (2, .any), (3, .any), (4, .any), (10, .any), (11, .any), (12, .any), (13, .any), (14, jI (1 : Int))] [bS]])) [0] (by kernel_rfl) (by kernel_rfl) (aO g325 (ok1 (sPdq_J1062_does rec_sPdq c hrec_sPdq (s := (v1, v2, v3, v10, v11, v12, ((v2 - 1) - (r1053.1 - v1)), (1 : Int), r1056)) (r := Sum.inr (Sum.inr (o1062))) hl1062)))
 ·have g326 := k2 ((fspec_ok _ (sChoose_ret c b0 v1 v2 r1053 h1054)) : SpecOk Tryz.prog G0 138 (fspec 1 [0] [.vec 0 b0.length 1, .int .i64 v1, .int .i64 v2, cFn c] [(bV (fl e_i64 b0) 3)] (.tup [.int .i64 r1053.1, .int .i64 r1053.2]) [(bV (fl e_i64 b0) 3)])) (k2 (⟨rfl, rfl, trivial⟩ : (([.vec 0 b0.length 1, .int .i64 v1, .int .i64 v2, cFn c] : List AV) = [.vec 0 b0.length 1, .int .i64 v1, .int .i64 v2, cFn c]) ∧ (some (Ob.blk (bV (fl e_i64 b0) 3)) = some (Ob.blk (bV (fl e_i64 b0) 3))) ∧ True) (ok1 (beq_f c1055)))
  obtain ⟨qq, hl1062, h⟩ := bnS h
  rcases qq with o1062 | (o1062 | o1062)
  ·dsimp only at h
   obtain rfl := oI h
   exact Does.of_viewM 1 400 (f323 ++ [.br false, .fcuta 1 1 .ret [] [(bV (fl e_i64 o1062) 3)] [0] [(0, .any), (1, .any), (2, .any), (3, .any), (4, .any), (10, .any), (11, .any), (12, .any), (13, .any), (14, .any)] [bS]]) [0] (by kernel_rfl) (by kernel_rfl) (aO g326 (ok1 (sPdq_J1062_does rec_sPdq c hrec_sPdq (s := (v1, v2, v3, v10, v11, v12, r1053.1, r1053.2, b0)) (r := Sum.inl o1062) hl1062)))
  ·dsimp only at h
   obtain rfl := oI h
   exact Does.of_viewM 1 400 (f323 ++ [.br false, .fcuta 1 1 .normal (sPdq_J1062_T rec_sPdq c (Sum.inr (Sum.inl o1062))) [(bV (fl e_i64 o1062.2.2.2.2.2) 3)] [0] [(0, .any), (1, .any), (2, .any), (3, .any), (4, .any), (10, .any), (11, .any), (12, .any), (13, .any), (14, .any)] [bS]]) [0] (by kernel_rfl) (by kernel_rfl) (aO g326 (ok1 (sPdq_J1062_does rec_sPdq c hrec_sPdq (s := (v1, v2, v3, v10, v11, v12, r1053.1, r1053.2, b0)) (r := Sum.inr (Sum.inl o1062)) hl1062)))
  ·dsimp only at h
   obtain rfl := oI h
   exact Does.of_viewM 1 400 (f323 ++ [.br false, .fcuta 1 1 (.exit 1) (sPdq_J1062_T rec_sPdq c (Sum.inr (Sum.inr (o1062)))) [(bV (fl e_i64 o1062.2.2.2.2.2) 3)] [0] [(0, .any), (1, .any), (2, .any), (3, .any), (4, .any), (10, .any), (11, .any), (12, .any), (13, .any), (14, .any)] [bS]]) [0] (by kernel_rfl) (by kernel_rfl) (aO g326 (ok1 (sPdq_J1062_does rec_sPdq c hrec_sPdq (s := (v1, v2, v3, v10, v11, v12, r1053.1, r1053.2, b0)) (r := Sum.inr (Sum.inr (o1062))) hl1062)))
def sPdq_L1_step (rec_sPdq : TB → (List Int) → Int → Int → Int → Option (List Int)) (c : TB) : (Int × Int × Int × Bool × Bool × (List Int)) → Option ((Int × Int × Int × Bool × Bool × (List Int)) ⊕ (List Int))
 | (v1, v2, v3, v10, v11, b0) =>
  if InR .i64 (v2 - v1) then
   if (v2 - v1) ≤ (12 : Int) then
    (sInsertion c b0 v1 v2).bind fun r842 =>
    if r842.length = b0.length then
     some (Sum.inr r842)
    else none
   else
    if v3 = (0 : Int) then
     (sHeap c b0 v1 v2).bind fun r846 =>
     if r846.length = b0.length then
      some (Sum.inr r846)
     else none
    else
     if v10 = true then
      (sPdq_J850_step rec_sPdq c (v1, v2, v3, v10, v11, (v2 - v1), b0)).bind fun qq => match qq with
      | Sum.inl o850 =>
       some (Sum.inr o850)
      | Sum.inr (Sum.inl o850) =>
       some (Sum.inl (o850.1, o850.2.1, o850.2.2.1, o850.2.2.2.1, o850.2.2.2.2.1, o850.2.2.2.2.2))
      | Sum.inr (Sum.inr (o850)) =>
       some (Sum.inl (o850.1, o850.2.1, o850.2.2.1, o850.2.2.2.1, o850.2.2.2.2.1, o850.2.2.2.2.2))
     else
      (sBreak c b0 v1 v2).bind fun r1255 =>
      if r1255.length = b0.length then
       if InR .i64 (v3 - 1) then
        (sPdq_J850_step rec_sPdq c (v1, v2, (v3 - 1), v10, v11, (v2 - v1), r1255)).bind fun qq => match qq with
        | Sum.inl o850 =>
         some (Sum.inr o850)
        | Sum.inr (Sum.inl o850) =>
         some (Sum.inl (o850.1, o850.2.1, o850.2.2.1, o850.2.2.2.1, o850.2.2.2.2.1, o850.2.2.2.2.2))
        | Sum.inr (Sum.inr (o850)) =>
         some (Sum.inl (o850.1, o850.2.1, o850.2.2.1, o850.2.2.2.1, o850.2.2.2.2.1, o850.2.2.2.2.2))
       else none
      else none
  else none
def sPdq_L1_H (rec_sPdq : TB → (List Int) → Int → Int → Int → Option (List Int)) (c : TB) : (Int × Int × Int × Bool × Bool × (List Int)) → St := fun (s : (Int × Int × Int × Bool × Bool × (List Int))) => S 148 [(0, .vec 0 s.2.2.2.2.2.length 1), (1, .int .i64 s.1), (2, .int .i64 s.2.1), (3, .int .i64 s.2.2.1), (4, cFn c), (10, .bool s.2.2.2.1), (11, .bool s.2.2.2.2.1)] [(bV (fl e_i64 s.2.2.2.2.2) 3)]
def sPdq_L1_X (rec_sPdq : TB → (List Int) → Int → Int → Int → Option (List Int)) (c : TB) : (List Int) → AEx := fun o => .ret
def sPdq_L1_T (rec_sPdq : TB → (List Int) → Int → Int → Int → Option (List Int)) (c : TB) : (List Int) → List (Nat × AV) := fun o => []
def sPdq_L1_B (rec_sPdq : TB → (List Int) → Int → Int → Int → Option (List Int)) (c : TB) : (List Int) → List Blk := fun o => [(bV (fl e_i64 o) 3)]
def sPdq_L1_E (rec_sPdq : TB → (List Int) → Int → Int → Int → Option (List Int)) (c : TB) (q : (List Int)) : St := S 148 (sPdq_L1_T rec_sPdq c q) (sPdq_L1_B rec_sPdq c q)
theorem sPdq_L1_does (rec_sPdq : TB → (List Int) → Int → Int → Int → Option (List Int)) (c : TB) (hrec_sPdq : ∀ (z0 : TB) (z1 : (List Int)) (z2 : Int) (z3 : Int) (z4 : Int) (r : (List Int)), rec_sPdq z0 z1 z2 z3 z4 = some r → CallsM Tryz.prog G0 1 93 [.vec 0 z1.length 1, .int .i64 z2, .int .i64 z3, .int .i64 z4, .fn (.func 74) [.agg [.lst (fl TC.enc z0.ucharges) z0.ucharges.length]] []] [(bV (fl e_i64 z1) 3)] (.tup []) [(bV (fl e_i64 r) 3)]) {s : (Int × Int × Int × Bool × Bool × (List Int))} {r : (List Int)} (h : lp (sPdq_L1_step rec_sPdq c) s = some r) : Does Tryz.prog G0 1 (.loop (bodyAt Tryz.prog 93 [1, 1, 0, 0])) (sPdq_L1_H rec_sPdq c s) (sPdq_L1_X rec_sPdq c r) (sPdq_L1_E rec_sPdq c r) := by
 refine Does.lp (H := sPdq_L1_H rec_sPdq c) (X := sPdq_L1_X rec_sPdq c) (E := sPdq_L1_E rec_sPdq c) (fun s s2 h => ?_) (fun s r h => ?_) h
 ·obtain ⟨v1, v2, v3, v10, v11, b0⟩ := s
  unfold sPdq_L1_step at h
  try dsimp only at h
  obtain ⟨h840, h⟩ := gdS h
  rcases itS h with ⟨c841, h⟩ | ⟨c841, h⟩
  ·obtain ⟨r842, h843, h⟩ := bnS h
   obtain ⟨h844, h⟩ := gdS h
   simp at h
  ·rcases itS h with ⟨c845, h⟩ | ⟨c845, h⟩
   ·obtain ⟨r846, h847, h⟩ := bnS h
    obtain ⟨h848, h⟩ := gdS h
    simp at h
   ·let f327 : List CH := (cs 2 (ow :: (cs 2 (oa :: bf :: oc :: oa :: bf :: (cs 2 [])))))
    have g328 := k2 h840 (k2 (dF c841) (ok1 (beq_f c845)))
    rcases itS h with ⟨c849, h⟩ | ⟨c849, h⟩
    ·obtain ⟨qq, hl850, h⟩ := bnS h
     rcases qq with o850 | (o850 | o850)
     ·dsimp only at h
      simp at h
     ·dsimp only at h
      obtain rfl := oL h
      exact Does.of_viewM 1 400 (f327 ++ [.br false, .fcuta 1 1 .normal (sPdq_J850_T rec_sPdq c (Sum.inr (Sum.inl o850))) [(bV (fl e_i64 o850.2.2.2.2.2) 3)] [0] [(0, .any), (1, .any), (2, .any), (3, .any), (4, .any), (10, .any), (11, .any), (12, .any)] [bS]]) [0] (by kernel_rfl) (by kernel_rfl) (aO g328 (k2 ((not_f c849) : (!v10) = false) (ok1 (sPdq_J850_does rec_sPdq c hrec_sPdq (s := (v1, v2, v3, v10, v11, (v2 - v1), b0)) (r := Sum.inr (Sum.inl o850)) hl850))))
     ·dsimp only at h
      obtain rfl := oL h
      exact Does.of_viewM 1 400 (f327 ++ [.br false, .fcuta 1 1 (.exit 1) (sPdq_J850_T rec_sPdq c (Sum.inr (Sum.inr (o850)))) [(bV (fl e_i64 o850.2.2.2.2.2) 3)] [0] [(0, .any), (1, .any), (2, .any), (3, .any), (4, .any), (10, .any), (11, .any), (12, .any)] [bS]]) [0] (by kernel_rfl) (by kernel_rfl) (aO g328 (k2 ((not_f c849) : (!v10) = false) (ok1 (sPdq_J850_does rec_sPdq c hrec_sPdq (s := (v1, v2, v3, v10, v11, (v2 - v1), b0)) (r := Sum.inr (Sum.inr (o850))) hl850))))
    ·obtain ⟨r1255, h1256, h⟩ := bnS h
     obtain ⟨h1257, h⟩ := gdS h
     obtain ⟨h1258, h⟩ := gdS h
     let f329 : List CH := (bt :: (cs 5 [.spec (fspec 1 [0] [.vec 0 b0.length 1, .int .i64 v1, .int .i64 v2, cFn c] [(bV (fl e_i64 b0) 3)] (.tup []) [(bV (fl e_i64 r1255) 3)]), .tr (.eqt (.t 0) (.vec 0 r1255.length 1)), oc, ow, oc]))
     have g330 := k2 ((not_t (eq_false_of_ne_true c849)) : (!v10) = true) (k2 ((fspec_ok _ (sBreak_ret c b0 v1 v2 r1255 h1256)) : SpecOk Tryz.prog G0 137 (fspec 1 [0] [.vec 0 b0.length 1, .int .i64 v1, .int .i64 v2, cFn c] [(bV (fl e_i64 b0) 3)] (.tup []) [(bV (fl e_i64 r1255) 3)])) (k2 (⟨rfl, rfl, trivial⟩ : (([.vec 0 b0.length 1, .int .i64 v1, .int .i64 v2, cFn c] : List AV) = [.vec 0 b0.length 1, .int .i64 v1, .int .i64 v2, cFn c]) ∧ (some (Ob.blk (bV (fl e_i64 b0) 3)) = some (Ob.blk (bV (fl e_i64 b0) 3))) ∧ True) (k2 ((congrArg (fun q => AV.vec 0 q 1) h1257.symm) : (.vec 0 b0.length 1 : AV) = .vec 0 r1255.length 1) (ok1 h1258))))
     obtain ⟨qq, hl850, h⟩ := bnS h
     rcases qq with o850 | (o850 | o850)
     ·dsimp only at h
      simp at h
     ·dsimp only at h
      obtain rfl := oL h
      exact Does.of_viewM 1 400 (f327 ++ (f329 ++ [.fcuta 0 1 .normal (sPdq_J850_T rec_sPdq c (Sum.inr (Sum.inl o850))) [(bV (fl e_i64 o850.2.2.2.2.2) 3)] [0] [(0, .any), (1, .any), (2, .any), (3, .any), (4, .any), (10, .any), (11, .any), (12, .any)] [bS]])) [0] (by kernel_rfl) (by kernel_rfl) (aO g328 (aO g330 (ok1 (sPdq_J850_does rec_sPdq c hrec_sPdq (s := (v1, v2, (v3 - 1), v10, v11, (v2 - v1), r1255)) (r := Sum.inr (Sum.inl o850)) hl850))))
     ·dsimp only at h
      obtain rfl := oL h
      exact Does.of_viewM 1 400 (f327 ++ (f329 ++ [.fcuta 0 1 (.exit 1) (sPdq_J850_T rec_sPdq c (Sum.inr (Sum.inr (o850)))) [(bV (fl e_i64 o850.2.2.2.2.2) 3)] [0] [(0, .any), (1, .any), (2, .any), (3, .any), (4, .any), (10, .any), (11, .any), (12, .any)] [bS]])) [0] (by kernel_rfl) (by kernel_rfl) (aO g328 (aO g330 (ok1 (sPdq_J850_does rec_sPdq c hrec_sPdq (s := (v1, v2, (v3 - 1), v10, v11, (v2 - v1), r1255)) (r := Sum.inr (Sum.inr (o850))) hl850))))
 ·obtain ⟨v1, v2, v3, v10, v11, b0⟩ := s
  unfold sPdq_L1_step at h
  try dsimp only at h
  obtain ⟨h840, h⟩ := gdS h
  let f331 : List CH := (cs 2 (ow :: (cs 2 [oa])))
  rcases itS h with ⟨c841, h⟩ | ⟨c841, h⟩
  ·obtain ⟨r842, h843, h⟩ := bnS h
   obtain ⟨h844, h⟩ := gdS h
   obtain rfl := oR h
   exact ⟨Does.of_viewM 1 400 (f331 ++ (bt :: (cs 5 [.spec (fspec 1 [0] [.vec 0 b0.length 1, jI v1, jI v2, cFn c] [(bV (fl e_i64 b0) 3)] (.tup []) [(bV (fl e_i64 r842) 3)]), .tr (.eqt (.t 0) (.vec 0 r842.length 1))]))) [0] (by kernel_rfl) (by kernel_rfl) (k2 h840 (k2 (dT c841) (k2 ((fspec_ok _ (sInsertion_ret c b0 v1 v2 r842 h843)) : SpecOk Tryz.prog G0 135 (fspec 1 [0] [.vec 0 b0.length 1, jI v1, jI v2, cFn c] [(bV (fl e_i64 b0) 3)] (.tup []) [(bV (fl e_i64 r842) 3)])) (k2 (⟨rfl, rfl, trivial⟩ : (([.vec 0 b0.length 1, jI v1, jI v2, cFn c] : List AV) = [.vec 0 b0.length 1, jI v1, jI v2, cFn c]) ∧ (some (Ob.blk (bV (fl e_i64 b0) 3)) = some (Ob.blk (bV (fl e_i64 b0) 3))) ∧ True) (ok1 ((congrArg (fun q => AV.vec 0 q 1) h844.symm) : (.vec 0 b0.length 1 : AV) = .vec 0 r842.length 1)))))), by intro q; cases q⟩
  ·let f332 : List CH := [.br false, oc, oa]
   rcases itS h with ⟨c845, h⟩ | ⟨c845, h⟩
   ·obtain ⟨r846, h847, h⟩ := bnS h
    obtain ⟨h848, h⟩ := gdS h
    obtain rfl := oR h
    exact ⟨Does.of_viewM 1 400 (f331 ++ (f332 ++ (bt :: (cs 5 [.spec (fspec 1 [0] [.vec 0 b0.length 1, jI v1, jI v2, cFn c] [(bV (fl e_i64 b0) 3)] (.tup []) [(bV (fl e_i64 r846) 3)]), .tr (.eqt (.t 0) (.vec 0 r846.length 1))])))) [0] (by kernel_rfl) (by kernel_rfl) (k2 h840 (k2 (dF c841) (k2 (beq_t c845) (k2 ((fspec_ok _ (sHeap_ret c b0 v1 v2 r846 h847)) : SpecOk Tryz.prog G0 136 (fspec 1 [0] [.vec 0 b0.length 1, jI v1, jI v2, cFn c] [(bV (fl e_i64 b0) 3)] (.tup []) [(bV (fl e_i64 r846) 3)])) (k2 (⟨rfl, rfl, trivial⟩ : (([.vec 0 b0.length 1, jI v1, jI v2, cFn c] : List AV) = [.vec 0 b0.length 1, jI v1, jI v2, cFn c]) ∧ (some (Ob.blk (bV (fl e_i64 b0) 3)) = some (Ob.blk (bV (fl e_i64 b0) 3))) ∧ True) (ok1 ((congrArg (fun q => AV.vec 0 q 1) h848.symm) : (.vec 0 b0.length 1 : AV) = .vec 0 r846.length 1))))))), by intro q; cases q⟩
   ·let f333 : List CH := (bf :: (cs 2 []))
    have g334 := k2 h840 (k2 (dF c841) (ok1 (beq_f c845)))
    rcases itS h with ⟨c849, h⟩ | ⟨c849, h⟩
    ·obtain ⟨qq, hl850, h⟩ := bnS h
     rcases qq with o850 | (o850 | o850)
     ·dsimp only at h
      obtain rfl := oR h
      exact ⟨Does.of_viewM 1 400 (f331 ++ (f332 ++ (f333 ++ [.br false, .fcuta 1 1 .ret [] [(bV (fl e_i64 o850) 3)] [0] [(0, .any), (1, .any), (2, .any), (3, .any), (4, .any), (10, .any), (11, .any), (12, .any)] [bS]]))) [0] (by kernel_rfl) (by kernel_rfl) (aO g334 (k2 ((not_f c849) : (!v10) = false) (ok1 (sPdq_J850_does rec_sPdq c hrec_sPdq (s := (v1, v2, v3, v10, v11, (v2 - v1), b0)) (r := Sum.inl o850) hl850)))), by intro q; cases q⟩
     ·dsimp only at h
      simp at h
     ·dsimp only at h
      simp at h
    ·obtain ⟨r1255, h1256, h⟩ := bnS h
     obtain ⟨h1257, h⟩ := gdS h
     obtain ⟨h1258, h⟩ := gdS h
     obtain ⟨qq, hl850, h⟩ := bnS h
     rcases qq with o850 | (o850 | o850)
     ·dsimp only at h
      obtain rfl := oR h
      exact ⟨Does.of_viewM 1 400 (f331 ++ (f332 ++ (f333 ++ (bt :: (cs 5 [.spec (fspec 1 [0] [.vec 0 b0.length 1, jI v1, jI v2, cFn c] [(bV (fl e_i64 b0) 3)] (.tup []) [(bV (fl e_i64 r1255) 3)]), .tr (.eqt (.t 0) (.vec 0 r1255.length 1)), oc, ow, oc, .fcuta 0 1 .ret [] [(bV (fl e_i64 o850) 3)] [0] [(0, .any), (1, .any), (2, .any), (3, .any), (4, .any), (10, .any), (11, .any), (12, .any)] [bS]]))))) [0] (by kernel_rfl) (by kernel_rfl) (aO g334 (k2 ((not_t (eq_false_of_ne_true c849)) : (!v10) = true) (k2 ((fspec_ok _ (sBreak_ret c b0 v1 v2 r1255 h1256)) : SpecOk Tryz.prog G0 137 (fspec 1 [0] [.vec 0 b0.length 1, jI v1, jI v2, cFn c] [(bV (fl e_i64 b0) 3)] (.tup []) [(bV (fl e_i64 r1255) 3)])) (k2 (⟨rfl, rfl, trivial⟩ : (([.vec 0 b0.length 1, jI v1, jI v2, cFn c] : List AV) = [.vec 0 b0.length 1, jI v1, jI v2, cFn c]) ∧ (some (Ob.blk (bV (fl e_i64 b0) 3)) = some (Ob.blk (bV (fl e_i64 b0) 3))) ∧ True) (k2 ((congrArg (fun q => AV.vec 0 q 1) h1257.symm) : (.vec 0 b0.length 1 : AV) = .vec 0 r1255.length 1) (k2 h1258 (ok1 (sPdq_J850_does rec_sPdq c hrec_sPdq (s := (v1, v2, (v3 - 1), v10, v11, (v2 - v1), r1255)) (r := Sum.inl o850) hl850)))))))), by intro q; cases q⟩
     ·dsimp only at h
      simp at h
     ·dsimp only at h
      simp at h
def sPdq (rec_sPdq : TB → (List Int) → Int → Int → Int → Option (List Int)) (c : TB) (l : (List Int)) (a : Int) (b : Int) (limit : Int) : Option (List Int) :=
 (lp (sPdq_L1_step rec_sPdq c) (a, b, limit, true, true, l)).bind fun o1 =>
 some o1
theorem sPdq_ret (rec_sPdq : TB → (List Int) → Int → Int → Int → Option (List Int)) (hrec_sPdq : ∀ (z0 : TB) (z1 : (List Int)) (z2 : Int) (z3 : Int) (z4 : Int) (r : (List Int)), rec_sPdq z0 z1 z2 z3 z4 = some r → CallsM Tryz.prog G0 1 93 [.vec 0 z1.length 1, .int .i64 z2, .int .i64 z3, .int .i64 z4, .fn (.func 74) [.agg [.lst (fl TC.enc z0.ucharges) z0.ucharges.length]] []] [(bV (fl e_i64 z1) 3)] (.tup []) [(bV (fl e_i64 r) 3)]) (c : TB) (l : (List Int)) (a : Int) (b : Int) (limit : Int) (r : (List Int)) (h : sPdq rec_sPdq c l a b limit = some r) : CallsM Tryz.prog G0 1 93 [.vec 0 l.length 1, .int .i64 a, .int .i64 b, .int .i64 limit, cFn c] [(bV (fl e_i64 l) 3)] (.tup []) [(bV (fl e_i64 r) 3)] := by
 unfold sPdq at h
 obtain ⟨o1, hl1, h⟩ := bnS h
 obtain rfl := oI h
 exact CallsM.of_view 1 400 (cs 2 [.fcut 1 .ret [] [(bV (fl e_i64 o1) 3)] [0] [(0, .any), (1, .any), (2, .any), (3, .any), (4, .any), (10, .any), (11, .any)] [bS]]) [0] (by kernel_rfl) (by kernel_rfl) (ok1 (sPdq_L1_does rec_sPdq c hrec_sPdq (s := (a, b, limit, true, true, l)) (r := o1) hl1))
def sPdq_fuel : Nat → TB → (List Int) → Int → Int → Int → Option (List Int)
 | 0 => fun _ _ _ _ _ => none
 | k + 1 => sPdq (sPdq_fuel k)
theorem sPdq_fuel_ret : ∀ (k : Nat) (z0 : TB) (z1 : (List Int)) (z2 : Int) (z3 : Int) (z4 : Int) (r : (List Int)), sPdq_fuel k z0 z1 z2 z3 z4 = some r → CallsM Tryz.prog G0 1 93 [.vec 0 z1.length 1, .int .i64 z2, .int .i64 z3, .int .i64 z4, .fn (.func 74) [.agg [.lst (fl TC.enc z0.ucharges) z0.ucharges.length]] []] [(bV (fl e_i64 z1) 3)] (.tup []) [(bV (fl e_i64 r) 3)]
 | 0, _, _, _, _, _, _, h => by cases h
 | k + 1, z0, z1, z2, z3, z4, r, h => sPdq_ret (sPdq_fuel k) (sPdq_fuel_ret k) z0 z1 z2 z3 z4 r h
end
set_option maxHeartbeats 4000000
set_option maxRecDepth 100000
noncomputable section
open Go Go.Proofs
def sSort (c : TB) (l : (List Int)) : Option (List Int) :=
 if InR .u64 ((↑l.length : Int)) then
  (math_bits_Len (↑l.length : Int)).bind fun r2 =>
  (sPdq_fuel 64 c l 0 (↑l.length : Int) r2).bind fun r4 =>
  if r4.length = l.length then
   some r4
  else none
 else none
theorem sSort_ret (c : TB) (l : (List Int)) (r : (List Int)) (h : sSort c l = some r) : CallsM Tryz.prog G0 1 73 [.vec 0 l.length 1, cFn c] [(bV (fl e_i64 l) 3)] (.tup []) [(bV (fl e_i64 r) 3)] := by
 unfold sSort at h
 obtain ⟨h1, h⟩ := gdS h
 obtain ⟨r2, h3, h⟩ := bnS h
 obtain ⟨r4, h5, h⟩ := bnS h
 obtain ⟨h6, h⟩ := gdS h
 obtain rfl := oI h
 exact CallsM.of_view 1 400 (cs 6 (ow :: (.ret none [.any] (jI r2) []) :: (cs 2 [.spec (fspec 1 [0] [.vec 0 l.length 1, jI 0, jI (↑l.length : Int), jI r2, cFn c] [(bV (fl e_i64 l) 3)] (.tup []) [(bV (fl e_i64 r4) 3)]), .tr (.eqt (.t 0) (.vec 0 r4.length 1))]))) [0] (by kernel_rfl) (by kernel_rfl) (k2 h1 (k2 (math_bits_Len_ret (↑l.length : Int) r2 h3) (k2 ((fspec_ok _ (sPdq_fuel_ret 64 c l 0 (↑l.length : Int) r2 r4 h5)) : SpecOk Tryz.prog G0 93 (fspec 1 [0] [.vec 0 l.length 1, jI 0, jI (↑l.length : Int), jI r2, cFn c] [(bV (fl e_i64 l) 3)] (.tup []) [(bV (fl e_i64 r4) 3)])) (k2 (⟨rfl, rfl, trivial⟩ : (([.vec 0 l.length 1, jI 0, jI (↑l.length : Int), jI r2, cFn c] : List AV) = [.vec 0 l.length 1, jI 0, jI (↑l.length : Int), jI r2, cFn c]) ∧ (some (Ob.blk (bV (fl e_i64 l) 3)) = some (Ob.blk (bV (fl e_i64 l) 3))) ∧ True) (ok1 ((congrArg (fun q => AV.vec 0 q 1) h6.symm) : (.vec 0 l.length 1 : AV) = .vec 0 r4.length 1))))))
def money_Fits (n_0 : Int) : Option Bool :=
 if n_0 ≥ (-1125899906842624 : Int) then
  some (decide (n_0 ≤ (1125899906842624 : Int)))
 else
  some false
theorem money_Fits_ret (n_0 : Int) (r : Bool) (h : money_Fits n_0 = some r) : Ret Tryz.prog G0 72 [.int .i64 n_0] (.bool r) [] := by
 unfold money_Fits at h
 let f335 : List CH := (cs 2 [oa, oc])
 rcases itS h with ⟨c1, h⟩ | ⟨c1, h⟩
 ·obtain rfl := oI h
  exact Ret.of_view 400 (f335 ++ (tc :: oa :: (cs 2 []))) [] (by kernel_rfl) (by kernel_rfl) (ok1 (dT c1))
 ·obtain rfl := oI h
  exact Ret.of_view 400 (f335 ++ (oF :: (cs 3 []))) [] (by kernel_rfl) (by kernel_rfl) (ok1 (dF c1))
def bill_Days_L1_step (charges_0 : (List TC)) : (Nat × (List Int)) → Option ((Nat × (List Int)) ⊕ (List Int))
 | (k14, b0) =>
  if (↑k14 : Int) < (↑charges_0.length : Int) then
   (charges_0[k14]?).bind fun x16 =>
   (clock_Day x16.Time).bind fun r18 =>
   if r18 ≥ (0 : Int) then
    (money_Fits x16.Cents).bind fun r21 =>
    if r21 = true then
     if b0.length + 1 ≤ 4294967296 then
      if InR .i64 ((↑k14 : Int) + 1) then
       some (Sum.inl ((k14 + 1), (b0 ++ [(↑k14 : Int)])))
      else none
     else none
    else
     if InR .i64 ((↑k14 : Int) + 1) then
      some (Sum.inl ((k14 + 1), b0))
     else none
   else
    if InR .i64 ((↑k14 : Int) + 1) then
     some (Sum.inl ((k14 + 1), b0))
    else none
  else
   some (Sum.inr b0)
def bill_Days_L1_H (charges_0 : (List TC)) : (Nat × (List Int)) → St := fun (s : (Nat × (List Int))) => S 86 [(0, .lst (fl TC.enc charges_0) charges_0.length), (4, .vec 0 s.2.length 1), (12, .lst (fl TC.enc charges_0) charges_0.length), (13, .int .i64 (↑charges_0.length : Int)), (14, .int .i64 (↑s.1 : Int))] [(bV (fl e_i64 s.2) 3)]
def bill_Days_L1_X (charges_0 : (List TC)) : (List Int) → AEx := fun o => (.exit 0)
def bill_Days_L1_T (charges_0 : (List TC)) : (List Int) → List (Nat × AV) := fun o => [(0, .lst (fl TC.enc charges_0) charges_0.length), (4, .vec 0 o.length 1)]
def bill_Days_L1_B (charges_0 : (List TC)) : (List Int) → List Blk := fun o => [(bV (fl e_i64 o) 3)]
def bill_Days_L1_E (charges_0 : (List TC)) (q : (List Int)) : St := S 86 (bill_Days_L1_T charges_0 q) (bill_Days_L1_B charges_0 q)
theorem bill_Days_L1_does (charges_0 : (List TC)) {s : (Nat × (List Int))} {r : (List Int)} (h : lp (bill_Days_L1_step charges_0) s = some r) : Does Tryz.prog G0 0 (.loop (bodyAt Tryz.prog 52 [1, 1, 0, 1, 0, 0])) (bill_Days_L1_H charges_0 s) (bill_Days_L1_X charges_0 r) (bill_Days_L1_E charges_0 r) := by
 refine Does.lp (H := bill_Days_L1_H charges_0) (X := bill_Days_L1_X charges_0) (E := bill_Days_L1_E charges_0) (fun s s2 h => ?_) (fun s r h => ?_) h
 ·obtain ⟨k14, b0⟩ := s
  unfold bill_Days_L1_step at h
  try dsimp only at h
  rcases itS h with ⟨c15, h⟩ | ⟨c15, h⟩
  ·obtain ⟨x16, h17, h⟩ := bnS h
   obtain ⟨r18, h19, h⟩ := bnS h
   let f336 : List CH := (oa :: bt :: oc :: (.op none (.i k14)) :: (.op none (.v [.str x16.Key, .str x16.Vehicle, .str x16.System, .int .i64 x16.Class, .int .i64 x16.Time, .lst (fl TL.enc x16.Lines) x16.Lines.length, .int .i64 x16.Cents])) :: (cs 5 [.ret none [.any] (.int .i64 r18) [], oa, oc]))
   have g337 := k2 (dT c15) (k2 (ir h17) (k2 (fl_ne (f := TC.enc) (z := 6) (fun _ => rfl) h17) (k2 (fl_sub0 (f := TC.enc) (z := 7) (j := k14) (fun _ => rfl) h17 rfl) (ok1 (clock_Day_ret x16.Time r18 h19)))))
   rcases itS h with ⟨c20, h⟩ | ⟨c20, h⟩
   ·obtain ⟨r21, h22, h⟩ := bnS h
    let f338 : List CH := [tc, oc, .ret none [.any] (.bool r21) [], oc]
    rcases itS h with ⟨c23, h⟩ | ⟨c23, h⟩
    ·obtain ⟨h24, h⟩ := gdS h
     obtain ⟨h25, h⟩ := gdS h
     obtain rfl := oL h
     exact Does.of_viewM 0 400 (f336 ++ (f338 ++ (bt :: (cs 3 [.op none (.ap 4), .tr (.eqc 3 (fl e_i64 (b0 ++ [(↑k14 : Int)]))), .tr (.eqt (.t 31) (.vec 3 ((b0 ++ [(↑k14 : Int)]).length) 1)), oc, ow, oc])))) [3] (by kernel_rfl) (by kernel_rfl) (aO g337 (k2 (dT c20) (k2 (money_Fits_ret x16.Cents r21 h22) (k2 c23 (k2 ((nB rfl) : 0 + 1 ≤ List.length ([jI (↑k14 : Int)] : List AV)) (k2 ((fl_length1 (f := e_i64) (fun _ => rfl) _) : List.length ((fl e_i64 b0) : List AV) = b0.length) (k2 (rfl : List.all ([jI (↑k14 : Int)] : List AV) AV.one = true) (k2 h24 (k2 ((fl_snoc rfl) : (fl e_i64 b0) ++ [jI (↑k14 : Int)] = (fl e_i64 (b0 ++ [(↑k14 : Int)]))) (k2 ((by simp <;> omega) : (.vec 3 (b0.length + 1) 1 : AV) = .vec 3 ((b0 ++ [(↑k14 : Int)]).length) 1) (ok1 h25)))))))))))
    ·obtain ⟨h26, h⟩ := gdS h
     obtain rfl := oL h
     exact Does.of_viewM 0 400 (f336 ++ (f338 ++ [.br false, ow, oc])) [0] (by kernel_rfl) (by kernel_rfl) (aO g337 (k2 (dT c20) (k2 (money_Fits_ret x16.Cents r21 h22) (k2 ((eq_false_of_ne_true c23) : r21 = false) (ok1 h26)))))
   ·obtain ⟨h27, h⟩ := gdS h
    obtain rfl := oL h
    exact Does.of_viewM 0 400 (f336 ++ (oF :: (cs 3 [.br false, ow, oc]))) [0] (by kernel_rfl) (by kernel_rfl) (aO g337 (k2 (dF c20) (k2 (rfl : false = false) (ok1 h27))))
  ·simp at h
 ·obtain ⟨k14, b0⟩ := s
  unfold bill_Days_L1_step at h
  try dsimp only at h
  rcases itS h with ⟨c15, h⟩ | ⟨c15, h⟩
  ·obtain ⟨x16, h17, h⟩ := bnS h
   obtain ⟨r18, h19, h⟩ := bnS h
   rcases itS h with ⟨c20, h⟩ | ⟨c20, h⟩
   ·obtain ⟨r21, h22, h⟩ := bnS h
    rcases itS h with ⟨c23, h⟩ | ⟨c23, h⟩
    ·obtain ⟨h24, h⟩ := gdS h
     obtain ⟨h25, h⟩ := gdS h
     simp at h
    ·obtain ⟨h26, h⟩ := gdS h
     simp at h
   ·obtain ⟨h27, h⟩ := gdS h
    simp at h
  ·obtain rfl := oR h
   exact ⟨Does.of_viewM 0 400 [oa, .br false] [0] (by kernel_rfl) (by kernel_rfl) (ok1 (dF c15)), by intro q; cases q⟩
def bill_Days_L31_step (charges_0 : (List TC)) (r28 : (List Int)) : (Nat × (List Int) × (List Int)) → Option ((Nat × (List Int) × (List Int)) ⊕ ((List Int) × (List Int)))
 | (k40, b3, b4) =>
  if (↑k40 : Int) < (↑r28.length : Int) then
   (r28[k40]?).bind fun x69 =>
   if (0 : Int) ≤ x69 then
    (charges_0[x69.toNat]?).bind fun x72 =>
    (clock_Day x72.Time).bind fun r74 =>
    if (↑b3.length : Int) = (0 : Int) then
     if b3.length + 1 ≤ 4294967296 then
      if b4.length + 1 ≤ 4294967296 then
       if InR .i64 ((↑((b4 ++ [0]).length) : Int) - 1) then
        if (0 : Int) ≤ ((↑((b4 ++ [0]).length) : Int) - 1) then
         ((b4 ++ [0])[(Int.toNat ((↑((b4 ++ [0]).length) : Int) - 1))]?).bind fun x81 =>
         if InR .i64 (x81 + x72.Cents) then
          if InR .i64 ((↑k40 : Int) + 1) then
           some (Sum.inl ((k40 + 1), (b3 ++ [r74]), (List.set (b4 ++ [0]) (Int.toNat ((↑((b4 ++ [0]).length) : Int) - 1)) (x81 + x72.Cents))))
          else none
         else none
        else none
       else none
      else none
     else none
    else
     if InR .i64 ((↑b3.length : Int) - 1) then
      if (0 : Int) ≤ ((↑b3.length : Int) - 1) then
       (b3[(Int.toNat ((↑b3.length : Int) - 1))]?).bind fun x87 =>
       if x87 = r74 then
        if InR .i64 ((↑b4.length : Int) - 1) then
         if (0 : Int) ≤ ((↑b4.length : Int) - 1) then
          (b4[(Int.toNat ((↑b4.length : Int) - 1))]?).bind fun x92 =>
          if InR .i64 (x92 + x72.Cents) then
           if InR .i64 ((↑k40 : Int) + 1) then
            some (Sum.inl ((k40 + 1), b3, (List.set b4 (Int.toNat ((↑b4.length : Int) - 1)) (x92 + x72.Cents))))
           else none
          else none
         else none
        else none
       else
        if b3.length + 1 ≤ 4294967296 then
         if b4.length + 1 ≤ 4294967296 then
          if InR .i64 ((↑((b4 ++ [0]).length) : Int) - 1) then
           if (0 : Int) ≤ ((↑((b4 ++ [0]).length) : Int) - 1) then
            ((b4 ++ [0])[(Int.toNat ((↑((b4 ++ [0]).length) : Int) - 1))]?).bind fun x100 =>
            if InR .i64 (x100 + x72.Cents) then
             if InR .i64 ((↑k40 : Int) + 1) then
              some (Sum.inl ((k40 + 1), (b3 ++ [r74]), (List.set (b4 ++ [0]) (Int.toNat ((↑((b4 ++ [0]).length) : Int) - 1)) (x100 + x72.Cents))))
             else none
            else none
           else none
          else none
         else none
        else none
      else none
     else none
   else none
  else
   some (Sum.inr (b3, b4))
def bill_Days_L31_H (charges_0 : (List TC)) (r28 : (List Int)) : (Nat × (List Int) × (List Int)) → St := fun (s : (Nat × (List Int) × (List Int))) => S 86 [(0, .lst (fl TC.enc charges_0) charges_0.length), (7, .vec 1 s.2.1.length 1), (8, .vec 2 s.2.2.length 1), (38, .vec 0 r28.length 1), (39, .int .i64 (↑r28.length : Int)), (40, .int .i64 (↑s.1 : Int))] [(bV (fl e_i64 r28) 3), (bV (fl e_i64 s.2.1) 3), (bV (fl e_i64 s.2.2) 3)]
def bill_Days_L31_X (charges_0 : (List TC)) (r28 : (List Int)) : ((List Int) × (List Int)) → AEx := fun o => (.exit 2)
def bill_Days_L31_T (charges_0 : (List TC)) (r28 : (List Int)) : ((List Int) × (List Int)) → List (Nat × AV) := fun o => [(7, .vec 1 o.1.length 1), (8, .vec 2 o.2.length 1)]
def bill_Days_L31_B (charges_0 : (List TC)) (r28 : (List Int)) : ((List Int) × (List Int)) → List Blk := fun o => [(bV (fl e_i64 r28) 3), (bV (fl e_i64 o.1) 3), (bV (fl e_i64 o.2) 3)]
def bill_Days_L31_E (charges_0 : (List TC)) (r28 : (List Int)) (q : ((List Int) × (List Int))) : St := S 86 (bill_Days_L31_T charges_0 r28 q) (bill_Days_L31_B charges_0 r28 q)
theorem bill_Days_L31_does (charges_0 : (List TC)) (r28 : (List Int)) {s : (Nat × (List Int) × (List Int))} {r : ((List Int) × (List Int))} (h : lp (bill_Days_L31_step charges_0 r28) s = some r) : Does Tryz.prog G0 1 (.loop (bodyAt Tryz.prog 52 [1, 1, 1, 1, 1, 0, 1, 0, 0])) (bill_Days_L31_H charges_0 r28 s) (bill_Days_L31_X charges_0 r28 r) (bill_Days_L31_E charges_0 r28 r) := by
 refine Does.lp (H := bill_Days_L31_H charges_0 r28) (X := bill_Days_L31_X charges_0 r28) (E := bill_Days_L31_E charges_0 r28) (fun s s2 h => ?_) (fun s r h => ?_) h
 ·obtain ⟨k40, b3, b4⟩ := s
  unfold bill_Days_L31_step at h
  try dsimp only at h
  rcases itS h with ⟨c68, h⟩ | ⟨c68, h⟩
  ·obtain ⟨x69, h70, h⟩ := bnS h
   obtain ⟨h71, h⟩ := gdS h
   obtain ⟨x72, h73, h⟩ := bnS h
   obtain ⟨r74, h75, h⟩ := bnS h
   let f339 : List CH := (oa :: bt :: (.op none (.i k40)) :: (vI x69) :: (cs 3 ((.op none (.i x69.toNat)) :: oc :: (.op none (.v [.int .i64 x72.Time])) :: (.ret none [.any] (.int .i64 r74) []) :: (cs 3 [oa, oc]))))
   have g340 := k2 (dT c68) (k2 (ir h70) (k2 (s_i64 h70) (k2 (ix h71 h73) (k2 (fl_ne (f := TC.enc) (z := 6) (fun _ => rfl) h73) (k2 (fl_sub (f := TC.enc) (z := 7) (j := x69.toNat) (a := 4) (n := 1) (fun _ => rfl) h73 (by decide) rfl) (ok1 (clock_Day_ret x72.Time r74 h75)))))))
   rcases itS h with ⟨c76, h⟩ | ⟨c76, h⟩
   ·obtain ⟨h77, h⟩ := gdS h
    obtain ⟨h78, h⟩ := gdS h
    obtain ⟨h79, h⟩ := gdS h
    obtain ⟨h80, h⟩ := gdS h
    obtain ⟨x81, h82, h⟩ := bnS h
    obtain ⟨h83, h⟩ := gdS h
    obtain ⟨h84, h⟩ := gdS h
    obtain rfl := oL h
    simp only [bill_Days_L31_H, List.length_set]
    exact Does.of_viewM 1 400 (f339 ++ (tc :: (cs 8 (bt :: (cs 3 ((.op none (.ap 4)) :: (.tr (.eqc 4 (fl e_i64 (b3 ++ [r74])))) :: (.tr (.eqt (.t 66) (.vec 4 ((b3 ++ [r74]).length) 1))) :: (cs 2 ((.op none (.ap 4)) :: (.tr (.eqc 6 (fl e_i64 (b4 ++ [0])))) :: (.tr (.eqt (.t 69) (.vec 6 ((b4 ++ [0]).length) 1))) :: (cs 5 (ow :: (.op none (.i (Int.toNat ((↑((b4 ++ [0]).length) : Int) - 1)))) :: (vI x81) :: (cs 2 [.op none (.i x69.toNat), oc, .op none (.v [jI x72.Cents]), ow, .op none (.i (Int.toNat ((↑((b4 ++ [0]).length) : Int) - 1))), oa, .trp (.eqc 6 (fl e_i64 (List.set (b4 ++ [0]) (Int.toNat ((↑((b4 ++ [0]).length) : Int) - 1)) (x81 + x72.Cents)))), ow, oc]))))))))))) [0, 4, 6] (by kernel_rfl) (by kernel_rfl) (aO g340 (k2 (beq_t c76) (k2 (rfl : true = true) (k2 ((nB rfl) : 0 + 1 ≤ List.length ([jI r74] : List AV)) (k2 ((fl_length1 (f := e_i64) (fun _ => rfl) _) : List.length ((fl e_i64 b3) : List AV) = b3.length) (k2 (rfl : List.all ([jI r74] : List AV) AV.one = true) (k2 h77 (k2 ((fl_snoc rfl) : (fl e_i64 b3) ++ [jI r74] = (fl e_i64 (b3 ++ [r74]))) (k2 ((by simp <;> omega) : (.vec 4 (b3.length + 1) 1 : AV) = .vec 4 ((b3 ++ [r74]).length) 1) (k2 ((nB rfl) : 0 + 1 ≤ List.length ([jI 0] : List AV)) (k2 ((fl_length1 (f := e_i64) (fun _ => rfl) _) : List.length ((fl e_i64 b4) : List AV) = b4.length) (k2 (rfl : List.all ([jI 0] : List AV) AV.one = true) (k2 h78 (k2 ((fl_snoc rfl) : (fl e_i64 b4) ++ [jI 0] = (fl e_i64 (b4 ++ [0]))) (k2 ((by simp <;> omega) : (.vec 6 (b4.length + 1) 1 : AV) = .vec 6 ((b4 ++ [0]).length) 1) (k2 (⟨rfl, trivial⟩ : (some (Ob.blk (bV (fl e_i64 (b4 ++ [0])) 3)) = some (Ob.blk (bV (fl e_i64 (b4 ++ [0])) 3))) ∧ True) (k2 h79 (k2 (ix h80 h82) (k2 (s_i64 h82) (k2 (ix h71 h73) (k2 (fl_ne (f := TC.enc) (z := 6) (fun _ => rfl) h73) (k2 (fl_sub (f := TC.enc) (z := 7) (j := x69.toNat) (a := 6) (n := 1) (fun _ => rfl) h73 (by decide) rfl) (k2 h83 (k2 (ix h80 h82) (k2 (rm_i64 h82) (k2 (st_i64 (x81 + x72.Cents) h82) (ok1 h84)))))))))))))))))))))))))))
   ·obtain ⟨h85, h⟩ := gdS h
    obtain ⟨h86, h⟩ := gdS h
    obtain ⟨x87, h88, h⟩ := bnS h
    let f341 : List CH := (oF :: (cs 2 [ow, .op none (.i (Int.toNat ((↑b3.length : Int) - 1))), vI x87, oc, oa, oc]))
    have g342 := k2 (beq_f c76) (k2 h85 (k2 (ix h86 h88) (ok1 (s_i64 h88))))
    rcases itS h with ⟨c89, h⟩ | ⟨c89, h⟩
    ·obtain ⟨h90, h⟩ := gdS h
     obtain ⟨h91, h⟩ := gdS h
     obtain ⟨x92, h93, h⟩ := bnS h
     obtain ⟨h94, h⟩ := gdS h
     obtain ⟨h95, h⟩ := gdS h
     obtain rfl := oL h
     simp only [bill_Days_L31_H, List.length_set]
     exact Does.of_viewM 1 400 (f339 ++ (f341 ++ (bf :: (cs 3 (ow :: (.op none (.i (Int.toNat ((↑b4.length : Int) - 1)))) :: (vI x92) :: (cs 2 [.op none (.i x69.toNat), oc, .op none (.v [jI x72.Cents]), ow, .op none (.i (Int.toNat ((↑b4.length : Int) - 1))), oa, .trp (.eqc 2 (fl e_i64 (List.set b4 (Int.toNat ((↑b4.length : Int) - 1)) (x92 + x72.Cents)))), ow, oc])))))) [0, 1, 2] (by kernel_rfl) (by kernel_rfl) (aO g340 (aO g342 (k2 (not_f (beq_t c89)) (k2 (⟨rfl, trivial⟩ : (some (Ob.blk (bV (fl e_i64 b4) 3)) = some (Ob.blk (bV (fl e_i64 b4) 3))) ∧ True) (k2 h90 (k2 (ix h91 h93) (k2 (s_i64 h93) (k2 (ix h71 h73) (k2 (fl_ne (f := TC.enc) (z := 6) (fun _ => rfl) h73) (k2 (fl_sub (f := TC.enc) (z := 7) (j := x69.toNat) (a := 6) (n := 1) (fun _ => rfl) h73 (by decide) rfl) (k2 h94 (k2 (ix h91 h93) (k2 (rm_i64 h93) (k2 (st_i64 (x92 + x72.Cents) h93) (ok1 h95)))))))))))))))
    ·obtain ⟨h96, h⟩ := gdS h
     obtain ⟨h97, h⟩ := gdS h
     obtain ⟨h98, h⟩ := gdS h
     obtain ⟨h99, h⟩ := gdS h
     obtain ⟨x100, h101, h⟩ := bnS h
     obtain ⟨h102, h⟩ := gdS h
     obtain ⟨h103, h⟩ := gdS h
     obtain rfl := oL h
     simp only [bill_Days_L31_H, List.length_set]
     exact Does.of_viewM 1 400 (f339 ++ (f341 ++ (bt :: (cs 3 ((.op none (.ap 4)) :: (.tr (.eqc 4 (fl e_i64 (b3 ++ [r74])))) :: (.tr (.eqt (.t 66) (.vec 4 ((b3 ++ [r74]).length) 1))) :: (cs 2 ((.op none (.ap 4)) :: (.tr (.eqc 6 (fl e_i64 (b4 ++ [0])))) :: (.tr (.eqt (.t 69) (.vec 6 ((b4 ++ [0]).length) 1))) :: (cs 5 (ow :: (.op none (.i (Int.toNat ((↑((b4 ++ [0]).length) : Int) - 1)))) :: (vI x100) :: (cs 2 [.op none (.i x69.toNat), oc, .op none (.v [jI x72.Cents]), ow, .op none (.i (Int.toNat ((↑((b4 ++ [0]).length) : Int) - 1))), oa, .trp (.eqc 6 (fl e_i64 (List.set (b4 ++ [0]) (Int.toNat ((↑((b4 ++ [0]).length) : Int) - 1)) (x100 + x72.Cents)))), ow, oc])))))))))) [0, 4, 6] (by kernel_rfl) (by kernel_rfl) (aO g340 (aO g342 (k2 (not_t (beq_f c89)) (k2 ((nB rfl) : 0 + 1 ≤ List.length ([jI r74] : List AV)) (k2 ((fl_length1 (f := e_i64) (fun _ => rfl) _) : List.length ((fl e_i64 b3) : List AV) = b3.length) (k2 (rfl : List.all ([jI r74] : List AV) AV.one = true) (k2 h96 (k2 ((fl_snoc rfl) : (fl e_i64 b3) ++ [jI r74] = (fl e_i64 (b3 ++ [r74]))) (k2 ((by simp <;> omega) : (.vec 4 (b3.length + 1) 1 : AV) = .vec 4 ((b3 ++ [r74]).length) 1) (k2 ((nB rfl) : 0 + 1 ≤ List.length ([jI 0] : List AV)) (k2 ((fl_length1 (f := e_i64) (fun _ => rfl) _) : List.length ((fl e_i64 b4) : List AV) = b4.length) (k2 (rfl : List.all ([jI 0] : List AV) AV.one = true) (k2 h97 (k2 ((fl_snoc rfl) : (fl e_i64 b4) ++ [jI 0] = (fl e_i64 (b4 ++ [0]))) (k2 ((by simp <;> omega) : (.vec 6 (b4.length + 1) 1 : AV) = .vec 6 ((b4 ++ [0]).length) 1) (k2 (⟨rfl, trivial⟩ : (some (Ob.blk (bV (fl e_i64 (b4 ++ [0])) 3)) = some (Ob.blk (bV (fl e_i64 (b4 ++ [0])) 3))) ∧ True) (k2 h98 (k2 (ix h99 h101) (k2 (s_i64 h101) (k2 (ix h71 h73) (k2 (fl_ne (f := TC.enc) (z := 6) (fun _ => rfl) h73) (k2 (fl_sub (f := TC.enc) (z := 7) (j := x69.toNat) (a := 6) (n := 1) (fun _ => rfl) h73 (by decide) rfl) (k2 h102 (k2 (ix h99 h101) (k2 (rm_i64 h101) (k2 (st_i64 (x100 + x72.Cents) h101) (ok1 h103)))))))))))))))))))))))))))
  ·simp at h
 ·obtain ⟨k40, b3, b4⟩ := s
  unfold bill_Days_L31_step at h
  try dsimp only at h
  rcases itS h with ⟨c68, h⟩ | ⟨c68, h⟩
  ·obtain ⟨x69, h70, h⟩ := bnS h
   obtain ⟨h71, h⟩ := gdS h
   obtain ⟨x72, h73, h⟩ := bnS h
   obtain ⟨r74, h75, h⟩ := bnS h
   rcases itS h with ⟨c76, h⟩ | ⟨c76, h⟩
   ·obtain ⟨h77, h⟩ := gdS h
    obtain ⟨h78, h⟩ := gdS h
    obtain ⟨h79, h⟩ := gdS h
    obtain ⟨h80, h⟩ := gdS h
    obtain ⟨x81, h82, h⟩ := bnS h
    obtain ⟨h83, h⟩ := gdS h
    obtain ⟨h84, h⟩ := gdS h
    simp at h
   ·obtain ⟨h85, h⟩ := gdS h
    obtain ⟨h86, h⟩ := gdS h
    obtain ⟨x87, h88, h⟩ := bnS h
    rcases itS h with ⟨c89, h⟩ | ⟨c89, h⟩
    ·obtain ⟨h90, h⟩ := gdS h
     obtain ⟨h91, h⟩ := gdS h
     obtain ⟨x92, h93, h⟩ := bnS h
     obtain ⟨h94, h⟩ := gdS h
     obtain ⟨h95, h⟩ := gdS h
     simp at h
    ·obtain ⟨h96, h⟩ := gdS h
     obtain ⟨h97, h⟩ := gdS h
     obtain ⟨h98, h⟩ := gdS h
     obtain ⟨h99, h⟩ := gdS h
     obtain ⟨x100, h101, h⟩ := bnS h
     obtain ⟨h102, h⟩ := gdS h
     obtain ⟨h103, h⟩ := gdS h
     simp at h
  ·obtain rfl := oR h
   exact ⟨Does.of_viewM 1 400 [oa, .br false] [0, 1, 2] (by kernel_rfl) (by kernel_rfl) (ok1 (dF c68)), by intro q; cases q⟩
def bill_Days (charges_0 : (List TC)) : Option ((List Int) × (List Int)) :=
 (lp (bill_Days_L1_step charges_0) ((0 : Nat), ([] : (List Int)))).bind fun o1 =>
 (sSort (⟨charges_0⟩ : TB) o1).bind fun r28 =>
 if r28.length = o1.length then
  (lp (bill_Days_L31_step charges_0 r28) ((0 : Nat), ([] : (List Int)), ([] : (List Int)))).bind fun o31 =>
  some (o31.1, o31.2)
 else none
theorem bill_Days_ret (charges_0 : (List TC)) (r : ((List Int) × (List Int))) (h : bill_Days charges_0 = some r) : Ret Tryz.prog G0 52 [.lst (fl TC.enc charges_0) charges_0.length] (.tup [.vec 0 r.1.length 1, .vec 1 r.2.length 1]) [(bV (fl e_i64 r.1) 3), (bV (fl e_i64 r.2) 3)] := by
 unfold bill_Days at h
 obtain ⟨o1, hl1, h⟩ := bnS h
 obtain ⟨r28, h29, h⟩ := bnS h
 obtain ⟨h30, h⟩ := gdS h
 obtain ⟨o31, hl31, h⟩ := bnS h
 obtain rfl := oI h
 exact Ret.of_view 400 (cs 6 ((.tr (.vec (.t 4) 1 3)) :: (.fcut 0 (.exit 0) (bill_Days_L1_T charges_0 o1) [(bV (fl e_i64 o1) 3)] [0] [(0, .any), (4, .vec 0 (([] : (List Int)).length) 1), (12, .any), (13, .any), (14, jI (↑(0 : Nat) : Int))] [(bV (fl e_i64 ([] : (List Int))) 3)]) :: (cs 5 ((.spec (fspec 1 [1] [.vec 0 o1.length 1, .fn (.func 74) [.agg [.lst (fl TC.enc charges_0) charges_0.length]] []] [(bV (fl e_i64 o1) 3)] (.tup []) [(bV (fl e_i64 r28) 3)])) :: (.tr (.eqt (.t 4) (.vec 1 r28.length 1))) :: (cs 5 ((.tr (.vec (.t 7) 1 3)) :: (.tr (.vec (.t 8) 1 3)) :: (.fcut 1 (.exit 2) (bill_Days_L31_T charges_0 r28 o31) (bill_Days_L31_B charges_0 r28 o31) [1, 3, 4] [(0, .any), (7, .vec 1 (([] : (List Int)).length) 1), (8, .vec 2 (([] : (List Int)).length) 1), (38, .vec 0 r28.length 1), (39, .any), (40, jI (↑(0 : Nat) : Int))] [bS, (bV (fl e_i64 ([] : (List Int))) 3), (bV (fl e_i64 ([] : (List Int))) 3)]) :: (cs 4 []))))))) [6, 7] (by kernel_rfl) (by kernel_rfl) (k2 ((by first | rfl | simp only [List.length_replicate, List.length_set]) : (.vec 0 0 1 : AV) = .vec 0 (([] : (List Int)).length) 1) (k2 (rfl : (jI 0 : AV) = jI (↑(0 : Nat) : Int)) (k2 (rfl : ((bV [] 3) : Blk) = renB [0] (bV (fl e_i64 ([] : (List Int))) 3)) (k2 (bill_Days_L1_does charges_0 (s := ((0 : Nat), ([] : (List Int)))) (r := o1) hl1) (k2 ((fspec_ok _ (sSort_ret (⟨charges_0⟩ : TB) o1 r28 h29)) : SpecOk Tryz.prog G0 73 (fspec 1 [1] [.vec 0 o1.length 1, .fn (.func 74) [.agg [.lst (fl TC.enc charges_0) charges_0.length]] []] [(bV (fl e_i64 o1) 3)] (.tup []) [(bV (fl e_i64 r28) 3)])) (k2 (⟨rfl, rfl, trivial⟩ : (([.vec 1 o1.length 1, .fn (.func 74) [.agg [.lst (fl TC.enc charges_0) charges_0.length]] []] : List AV) = [.vec 1 o1.length 1, .fn (.func 74) [.agg [.lst (fl TC.enc charges_0) charges_0.length]] []]) ∧ (some (Ob.blk (bV (fl e_i64 o1) 3)) = some (Ob.blk (bV (fl e_i64 o1) 3))) ∧ True) (k2 ((congrArg (fun q => AV.vec 1 q 1) h30.symm) : (.vec 1 o1.length 1 : AV) = .vec 1 r28.length 1) (k2 ((by first | rfl | simp only [List.length_replicate, List.length_set]) : (.vec 3 0 1 : AV) = .vec 3 (([] : (List Int)).length) 1) (k2 ((by first | rfl | simp only [List.length_replicate, List.length_set]) : (.vec 4 0 1 : AV) = .vec 4 (([] : (List Int)).length) 1) (k2 ((by first | rfl | simp only [List.length_replicate, List.length_set]) : (.vec 1 r28.length 1 : AV) = .vec 1 r28.length 1) (k2 (rfl : (jI 0 : AV) = jI (↑(0 : Nat) : Int)) (k2 (rfl : ((bV [] 3) : Blk) = renB [1, 3, 4] (bV (fl e_i64 ([] : (List Int))) 3)) (k2 (rfl : ((bV [] 3) : Blk) = renB [1, 3, 4] (bV (fl e_i64 ([] : (List Int))) 3)) (ok1 (bill_Days_L31_does charges_0 r28 (s := ((0 : Nat), ([] : (List Int)), ([] : (List Int)))) (r := o31) hl31)))))))))))))))
end
set_option maxHeartbeats 4000000
set_option maxRecDepth 100000
noncomputable section
open Go Go.Proofs
def aUDays_L3_step (r1 : ((List Int) × (List Int))) : (Nat × (List (Int × Int))) → Option ((Nat × (List (Int × Int))) ⊕ (List (Int × Int)))
 | (k16, b2) =>
  if (↑k16 : Int) < (↑r1.1.length : Int) then
   (r1.1[k16]?).bind fun x17 =>
   (r1.2[k16]?).bind fun x19 =>
   if InR .i64 ((↑k16 : Int) + 1) then
    some (Sum.inl ((k16 + 1), (setK fst b2 (x17, x19))))
   else none
  else
   some (Sum.inr b2)
def aUDays_L3_H (r1 : ((List Int) × (List Int))) : (Nat × (List (Int × Int))) → St := fun (s : (Nat × (List (Int × Int)))) => S 29 [(4, .vec 0 r1.2.length 1), (5, .mapr 1), (14, .vec 2 r1.1.length 1), (15, .int .i64 (↑r1.1.length : Int)), (16, .int .i64 (↑s.1 : Int))] [(bV (fl e_i64 r1.2) 3), (bM (.i .i64) (List.map mI s.2)), (bV (fl e_i64 r1.1) 3)]
def aUDays_L3_X (r1 : ((List Int) × (List Int))) : (List (Int × Int)) → AEx := fun o => (.exit 0)
def aUDays_L3_T (r1 : ((List Int) × (List Int))) : (List (Int × Int)) → List (Nat × AV) := fun o => [(5, .mapr 1)]
def aUDays_L3_B (r1 : ((List Int) × (List Int))) : (List (Int × Int)) → List Blk := fun o => [(bV (fl e_i64 r1.2) 3), (bM (.i .i64) (List.map mI o)), (bV (fl e_i64 r1.1) 3)]
def aUDays_L3_E (r1 : ((List Int) × (List Int))) (q : (List (Int × Int))) : St := S 29 (aUDays_L3_T r1 q) (aUDays_L3_B r1 q)
theorem aUDays_L3_does (r1 : ((List Int) × (List Int))) {s : (Nat × (List (Int × Int)))} {r : (List (Int × Int))} (h : lp (aUDays_L3_step r1) s = some r) : Does Tryz.prog G0 3 (.loop (bodyAt Tryz.prog 42 [1, 1, 1, 0, 1, 0, 0])) (aUDays_L3_H r1 s) (aUDays_L3_X r1 r) (aUDays_L3_E r1 r) := by
 refine Does.lp (H := aUDays_L3_H r1) (X := aUDays_L3_X r1) (E := aUDays_L3_E r1) (fun s s2 h => ?_) (fun s r h => ?_) h
 ·obtain ⟨k16, b2⟩ := s
  unfold aUDays_L3_step at h
  try dsimp only at h
  rcases itS h with ⟨c16, h⟩ | ⟨c16, h⟩
  ·obtain ⟨x17, h18, h⟩ := bnS h
   obtain ⟨x19, h20, h⟩ := bnS h
   obtain ⟨h21, h⟩ := gdS h
   obtain rfl := oL h
   exact Does.of_viewM 3 400 (oa :: bt :: oc :: (.op none (.i k16)) :: (vI x17) :: (cs 6 [.op none (.i k16), vI x19, oc, .tr (.mp 1 (List.map mI (setK fst b2 (x17, x19)))), ow, oc])) [0, 1, 2] (by kernel_rfl) (by kernel_rfl) (k2 (dT c16) (k2 (ir h18) (k2 (s_i64 h18) (k2 (ir h20) (k2 (s_i64 h20) (k2 ((List.Perm.of_eq (set_map (κ := fst) mI_key b2 (x17, x19))) : List.Perm (setE (List.map mI b2) (jI x17) (jI x19)) (List.map mI (setK fst b2 (x17, x19)))) (ok1 h21)))))))
  ·simp at h
 ·obtain ⟨k16, b2⟩ := s
  unfold aUDays_L3_step at h
  try dsimp only at h
  rcases itS h with ⟨c16, h⟩ | ⟨c16, h⟩
  ·obtain ⟨x17, h18, h⟩ := bnS h
   obtain ⟨x19, h20, h⟩ := bnS h
   obtain ⟨h21, h⟩ := gdS h
   simp at h
  ·obtain rfl := oR h
   exact ⟨Does.of_viewM 3 400 [oa, .br false] [0, 1, 2] (by kernel_rfl) (by kernel_rfl) (ok1 (dF c16)), by intro q; cases q⟩
def aUDays_L44_step (o3 : (List (Int × Int))) (o24 : (List (Int × Int))) : (Nat × (List TF)) → Option ((Nat × (List TF)) ⊕ (List TF))
 | (k24, b19) =>
  if (↑k24 : Int) < (↑((sortI (List.map fst (mrgK fst (o3) (o24)))).length) : Int) then
   ((sortI (List.map fst (mrgK fst (o3) (o24))))[k24]?).bind fun x71 =>
   if ((getK fst o3 x71).isSome) = true then
    (getK fst o3 x71).bind fun q74 =>
    if ((getK fst o24 x71).isSome) = true then
     (getK fst o24 x71).bind fun q77 =>
     if q74.2 = q77.2 then
      if InR .i64 ((↑k24 : Int) + 1) then
       some (Sum.inl ((k24 + 1), b19))
      else none
     else
      if b19.length + 1 ≤ 4294967296 then
       if InR .i64 ((↑k24 : Int) + 1) then
        some (Sum.inl ((k24 + 1), (b19 ++ [(⟨([] : List UInt8), x71, q74.2, q77.2⟩ : TF)])))
       else none
      else none
    else
     if q74.2 = (0 : Int) then
      if InR .i64 ((↑k24 : Int) + 1) then
       some (Sum.inl ((k24 + 1), b19))
      else none
     else
      if b19.length + 1 ≤ 4294967296 then
       if InR .i64 ((↑k24 : Int) + 1) then
        some (Sum.inl ((k24 + 1), (b19 ++ [(⟨([] : List UInt8), x71, q74.2, 0⟩ : TF)])))
       else none
      else none
   else
    if ((getK fst o24 x71).isSome) = true then
     (getK fst o24 x71).bind fun q88 =>
     if (0 : Int) = q88.2 then
      if InR .i64 ((↑k24 : Int) + 1) then
       some (Sum.inl ((k24 + 1), b19))
      else none
     else
      if b19.length + 1 ≤ 4294967296 then
       if InR .i64 ((↑k24 : Int) + 1) then
        some (Sum.inl ((k24 + 1), (b19 ++ [(⟨([] : List UInt8), x71, 0, q88.2⟩ : TF)])))
       else none
      else none
    else
     if InR .i64 ((↑k24 : Int) + 1) then
      some (Sum.inl ((k24 + 1), b19))
     else none
  else
   some (Sum.inr b19)
def aUDays_L44_H (o3 : (List (Int × Int))) (o24 : (List (Int × Int))) : (Nat × (List TF)) → St := fun (s : (Nat × (List TF))) => S 48 [(5, .mapr 0), (6, .mapr 1), (8, .vec 3 s.2.length 4), (22, .vec 2 ((sortI (List.map fst (mrgK fst (o3) (o24)))).length) 1), (23, .int .i64 (↑((sortI (List.map fst (mrgK fst (o3) (o24)))).length) : Int)), (24, .int .i64 (↑s.1 : Int))] [(bM (.i .i64) (List.map mI o3)), (bM (.i .i64) (List.map mI o24)), (bV (fl e_i64 (sortI (List.map fst (mrgK fst (o3) (o24))))) 3), (bV (fl TF.enc s.2) 39)]
def aUDays_L44_X (o3 : (List (Int × Int))) (o24 : (List (Int × Int))) : (List TF) → AEx := fun o => (.exit 0)
def aUDays_L44_T (o3 : (List (Int × Int))) (o24 : (List (Int × Int))) : (List TF) → List (Nat × AV) := fun o => [(8, .vec 3 o.length 4)]
def aUDays_L44_B (o3 : (List (Int × Int))) (o24 : (List (Int × Int))) : (List TF) → List Blk := fun o => [(bM (.i .i64) (List.map mI o3)), (bM (.i .i64) (List.map mI o24)), (bV (fl e_i64 (sortI (List.map fst (mrgK fst (o3) (o24))))) 3), (bV (fl TF.enc o) 39)]
def aUDays_L44_E (o3 : (List (Int × Int))) (o24 : (List (Int × Int))) (q : (List TF)) : St := S 48 (aUDays_L44_T o3 o24 q) (aUDays_L44_B o3 o24 q)
theorem aUDays_L44_does (o3 : (List (Int × Int))) (o24 : (List (Int × Int))) {s : (Nat × (List TF))} {r : (List TF)} (h : lp (aUDays_L44_step o3 o24) s = some r) : Does Tryz.prog G0 3 (.loop (bodyAt Tryz.prog 18 [1, 1, 1, 1, 1, 0, 1, 0, 0])) (aUDays_L44_H o3 o24 s) (aUDays_L44_X o3 o24 r) (aUDays_L44_E o3 o24 r) := by
 refine Does.lp (H := aUDays_L44_H o3 o24) (X := aUDays_L44_X o3 o24) (E := aUDays_L44_E o3 o24) (fun s s2 h => ?_) (fun s r h => ?_) h
 ·obtain ⟨k24, b19⟩ := s
  unfold aUDays_L44_step at h
  try dsimp only at h
  rcases itS h with ⟨c70, h⟩ | ⟨c70, h⟩
  ·obtain ⟨x71, h72, h⟩ := bnS h
   let f343 : List CH := (oa :: bt :: (.op none (.i k24)) :: (vI x71) :: (cs 3 []))
   have g344 := k2 (dT c70) (k2 (ir h72) (ok1 (s_i64 h72)))
   rcases itS h with ⟨c73, h⟩ | ⟨c73, h⟩
   ·obtain ⟨q74, h75, h⟩ := bnS h
    let f345 : List CH := ((.op none (.v [.int .i64 q74.2])) :: (cs 2 []))
    rcases itS h with ⟨c76, h⟩ | ⟨c76, h⟩
    ·obtain ⟨q77, h78, h⟩ := bnS h
     rcases itS h with ⟨c79, h⟩ | ⟨c79, h⟩
     ·obtain ⟨h80, h⟩ := gdS h
      obtain rfl := oL h
      exact Does.of_viewM 3 400 (f343 ++ (f345 ++ [.op none (.v [jI q77.2]), oa, .br false, ow, oc])) [0, 1, 2, 3] (by kernel_rfl) (by kernel_rfl) (aO g344 (k2 ((lookK_some mI_key (k := x71) (mI_at _) h75) : lookE (List.map mI o3) (jI x71) = some (jI q74.2)) (k2 ((lookK_some mI_key (k := x71) (mI_at _) h78) : lookE (List.map mI o24) (jI x71) = some (jI q77.2)) (k2 (not_f (beq_t c79)) (ok1 h80)))))
     ·obtain ⟨h81, h⟩ := gdS h
      obtain ⟨h82, h⟩ := gdS h
      obtain rfl := oL h
      exact Does.of_viewM 3 400 (f343 ++ (f345 ++ ((.op none (.v [jI q77.2])) :: oa :: bt :: (cs 4 ((.op none (.v [jI q74.2])) :: (cs 2 ((.op none (.v [jI q77.2])) :: (cs 2 [.op none (.ap 4), .tr (.eqc 5 (fl TF.enc (b19 ++ [(⟨([] : List UInt8), x71, q74.2, q77.2⟩ : TF)]))), .tr (.eqt (.t 45) (.vec 5 ((b19 ++ [(⟨([] : List UInt8), x71, q74.2, q77.2⟩ : TF)]).length) 4)), oc, ow, oc])))))))) [0, 1, 2, 5] (by kernel_rfl) (by kernel_rfl) (aO g344 (k2 ((lookK_some mI_key (k := x71) (mI_at _) h75) : lookE (List.map mI o3) (jI x71) = some (jI q74.2)) (k2 ((lookK_some mI_key (k := x71) (mI_at _) h78) : lookE (List.map mI o24) (jI x71) = some (jI q77.2)) (k2 (not_t (beq_f c79)) (k2 ((lookK_some mI_key (k := x71) (mI_at _) h75) : lookE (List.map mI o3) (jI x71) = some (jI q74.2)) (k2 ((lookK_some mI_key (k := x71) (mI_at _) h78) : lookE (List.map mI o24) (jI x71) = some (jI q77.2)) (k2 ((nB rfl) : 0 + 4 ≤ List.length ([.str [], jI x71, jI q74.2, jI q77.2] : List AV)) (k2 ((fl_length (f := TF.enc) (z := 4) (fun _ => rfl) _) : List.length ((fl TF.enc b19) : List AV) = (b19.length * 4)) (k2 (rfl : List.all ([.str [], jI x71, jI q74.2, jI q77.2] : List AV) AV.one = true) (k2 h81 (k2 ((fl_snoc rfl) : (fl TF.enc b19) ++ [.str [], jI x71, jI q74.2, jI q77.2] = (fl TF.enc (b19 ++ [(⟨([] : List UInt8), x71, q74.2, q77.2⟩ : TF)]))) (k2 ((by simp <;> omega) : (.vec 5 (b19.length + 1) 4 : AV) = .vec 5 ((b19 ++ [(⟨([] : List UInt8), x71, q74.2, q77.2⟩ : TF)]).length) 4) (ok1 h82)))))))))))))
    ·rcases itS h with ⟨c83, h⟩ | ⟨c83, h⟩
     ·obtain ⟨h84, h⟩ := gdS h
      obtain rfl := oL h
      exact Does.of_viewM 3 400 (f343 ++ (f345 ++ [.op none (.b false), oa, .br false, ow, oc])) [0, 1, 2, 3] (by kernel_rfl) (by kernel_rfl) (aO g344 (k2 ((lookK_some mI_key (k := x71) (mI_at _) h75) : lookE (List.map mI o3) (jI x71) = some (jI q74.2)) (k2 ((lookK_none mI_key (k := x71) (mI_at _) (getK_no c76)) : lookE (List.map mI o24) (jI x71) = none) (k2 (not_f (beq_t c83)) (ok1 h84)))))
     ·obtain ⟨h85, h⟩ := gdS h
      obtain ⟨h86, h⟩ := gdS h
      obtain rfl := oL h
      exact Does.of_viewM 3 400 (f343 ++ (f345 ++ ((.op none (.b false)) :: oa :: bt :: (cs 4 ((.op none (.v [jI q74.2])) :: (cs 2 ((.op none (.b false)) :: (cs 2 [.op none (.ap 4), .tr (.eqc 5 (fl TF.enc (b19 ++ [(⟨([] : List UInt8), x71, q74.2, 0⟩ : TF)]))), .tr (.eqt (.t 45) (.vec 5 ((b19 ++ [(⟨([] : List UInt8), x71, q74.2, 0⟩ : TF)]).length) 4)), oc, ow, oc])))))))) [0, 1, 2, 5] (by kernel_rfl) (by kernel_rfl) (aO g344 (k2 ((lookK_some mI_key (k := x71) (mI_at _) h75) : lookE (List.map mI o3) (jI x71) = some (jI q74.2)) (k2 ((lookK_none mI_key (k := x71) (mI_at _) (getK_no c76)) : lookE (List.map mI o24) (jI x71) = none) (k2 (not_t (beq_f c83)) (k2 ((lookK_some mI_key (k := x71) (mI_at _) h75) : lookE (List.map mI o3) (jI x71) = some (jI q74.2)) (k2 ((lookK_none mI_key (k := x71) (mI_at _) (getK_no c76)) : lookE (List.map mI o24) (jI x71) = none) (k2 ((nB rfl) : 0 + 4 ≤ List.length ([.str [], jI x71, jI q74.2, jI 0] : List AV)) (k2 ((fl_length (f := TF.enc) (z := 4) (fun _ => rfl) _) : List.length ((fl TF.enc b19) : List AV) = (b19.length * 4)) (k2 (rfl : List.all ([.str [], jI x71, jI q74.2, jI 0] : List AV) AV.one = true) (k2 h85 (k2 ((fl_snoc rfl) : (fl TF.enc b19) ++ [.str [], jI x71, jI q74.2, jI 0] = (fl TF.enc (b19 ++ [(⟨([] : List UInt8), x71, q74.2, 0⟩ : TF)]))) (k2 ((by simp <;> omega) : (.vec 5 (b19.length + 1) 4 : AV) = .vec 5 ((b19 ++ [(⟨([] : List UInt8), x71, q74.2, 0⟩ : TF)]).length) 4) (ok1 h86)))))))))))))
   ·let f346 : List CH := ((.op none (.b false)) :: (cs 2 []))
    rcases itS h with ⟨c87, h⟩ | ⟨c87, h⟩
    ·obtain ⟨q88, h89, h⟩ := bnS h
     rcases itS h with ⟨c90, h⟩ | ⟨c90, h⟩
     ·obtain ⟨h91, h⟩ := gdS h
      obtain rfl := oL h
      exact Does.of_viewM 3 400 (f343 ++ (f346 ++ [.op none (.v [jI q88.2]), oa, .br false, ow, oc])) [0, 1, 2, 3] (by kernel_rfl) (by kernel_rfl) (aO g344 (k2 ((lookK_none mI_key (k := x71) (mI_at _) (getK_no c73)) : lookE (List.map mI o3) (jI x71) = none) (k2 ((lookK_some mI_key (k := x71) (mI_at _) h89) : lookE (List.map mI o24) (jI x71) = some (jI q88.2)) (k2 (not_f (beq_t c90)) (ok1 h91)))))
     ·obtain ⟨h92, h⟩ := gdS h
      obtain ⟨h93, h⟩ := gdS h
      obtain rfl := oL h
      exact Does.of_viewM 3 400 (f343 ++ (f346 ++ ((.op none (.v [jI q88.2])) :: oa :: bt :: (cs 4 ((.op none (.b false)) :: (cs 2 ((.op none (.v [jI q88.2])) :: (cs 2 [.op none (.ap 4), .tr (.eqc 5 (fl TF.enc (b19 ++ [(⟨([] : List UInt8), x71, 0, q88.2⟩ : TF)]))), .tr (.eqt (.t 45) (.vec 5 ((b19 ++ [(⟨([] : List UInt8), x71, 0, q88.2⟩ : TF)]).length) 4)), oc, ow, oc])))))))) [0, 1, 2, 5] (by kernel_rfl) (by kernel_rfl) (aO g344 (k2 ((lookK_none mI_key (k := x71) (mI_at _) (getK_no c73)) : lookE (List.map mI o3) (jI x71) = none) (k2 ((lookK_some mI_key (k := x71) (mI_at _) h89) : lookE (List.map mI o24) (jI x71) = some (jI q88.2)) (k2 (not_t (beq_f c90)) (k2 ((lookK_none mI_key (k := x71) (mI_at _) (getK_no c73)) : lookE (List.map mI o3) (jI x71) = none) (k2 ((lookK_some mI_key (k := x71) (mI_at _) h89) : lookE (List.map mI o24) (jI x71) = some (jI q88.2)) (k2 ((nB rfl) : 0 + 4 ≤ List.length ([.str [], jI x71, jI 0, jI q88.2] : List AV)) (k2 ((fl_length (f := TF.enc) (z := 4) (fun _ => rfl) _) : List.length ((fl TF.enc b19) : List AV) = (b19.length * 4)) (k2 (rfl : List.all ([.str [], jI x71, jI 0, jI q88.2] : List AV) AV.one = true) (k2 h92 (k2 ((fl_snoc rfl) : (fl TF.enc b19) ++ [.str [], jI x71, jI 0, jI q88.2] = (fl TF.enc (b19 ++ [(⟨([] : List UInt8), x71, 0, q88.2⟩ : TF)]))) (k2 ((by simp <;> omega) : (.vec 5 (b19.length + 1) 4 : AV) = .vec 5 ((b19 ++ [(⟨([] : List UInt8), x71, 0, q88.2⟩ : TF)]).length) 4) (ok1 h93)))))))))))))
    ·obtain ⟨h94, h⟩ := gdS h
     obtain rfl := oL h
     exact Does.of_viewM 3 400 (f343 ++ (f346 ++ [.op none (.b false), oc, .br false, ow, oc])) [0, 1, 2, 3] (by kernel_rfl) (by kernel_rfl) (aO g344 (k2 ((lookK_none mI_key (k := x71) (mI_at _) (getK_no c73)) : lookE (List.map mI o3) (jI x71) = none) (k2 ((lookK_none mI_key (k := x71) (mI_at _) (getK_no c87)) : lookE (List.map mI o24) (jI x71) = none) (k2 (rfl : false = false) (ok1 h94)))))
  ·simp at h
 ·obtain ⟨k24, b19⟩ := s
  unfold aUDays_L44_step at h
  try dsimp only at h
  rcases itS h with ⟨c70, h⟩ | ⟨c70, h⟩
  ·obtain ⟨x71, h72, h⟩ := bnS h
   rcases itS h with ⟨c73, h⟩ | ⟨c73, h⟩
   ·obtain ⟨q74, h75, h⟩ := bnS h
    rcases itS h with ⟨c76, h⟩ | ⟨c76, h⟩
    ·obtain ⟨q77, h78, h⟩ := bnS h
     rcases itS h with ⟨c79, h⟩ | ⟨c79, h⟩
     ·obtain ⟨h80, h⟩ := gdS h
      simp at h
     ·obtain ⟨h81, h⟩ := gdS h
      obtain ⟨h82, h⟩ := gdS h
      simp at h
    ·rcases itS h with ⟨c83, h⟩ | ⟨c83, h⟩
     ·obtain ⟨h84, h⟩ := gdS h
      simp at h
     ·obtain ⟨h85, h⟩ := gdS h
      obtain ⟨h86, h⟩ := gdS h
      simp at h
   ·rcases itS h with ⟨c87, h⟩ | ⟨c87, h⟩
    ·obtain ⟨q88, h89, h⟩ := bnS h
     rcases itS h with ⟨c90, h⟩ | ⟨c90, h⟩
     ·obtain ⟨h91, h⟩ := gdS h
      simp at h
     ·obtain ⟨h92, h⟩ := gdS h
      obtain ⟨h93, h⟩ := gdS h
      simp at h
    ·obtain ⟨h94, h⟩ := gdS h
     simp at h
  ·obtain rfl := oR h
   exact ⟨Does.of_viewM 3 400 [oa, .br false] [0, 1, 2, 3] (by kernel_rfl) (by kernel_rfl) (ok1 (dF c70)), by intro q; cases q⟩
def aUDays (have_0 : (List TC)) (want_1 : (List TC)) : Option (List TF) :=
 (bill_Days have_0).bind fun r1 =>
 (lp (aUDays_L3_step r1) ((0 : Nat), ([] : List (Int × Int)))).bind fun o3 =>
 (bill_Days want_1).bind fun r22 =>
 (lp (aUDays_L3_step r22) ((0 : Nat), ([] : List (Int × Int)))).bind fun o24 =>
 if SkI (List.map fst (mrgK fst (o3) (o24))) then
  (lp (aUDays_L44_step o3 o24) ((0 : Nat), ([] : (List TF)))).bind fun o44 =>
  some o44
 else none
theorem aUDays_ret (have_0 : (List TC)) (want_1 : (List TC)) (r : (List TF)) (h : aUDays have_0 want_1 = some r) : Ret Tryz.prog G0 18 [.lst (fl TC.enc have_0) have_0.length, .lst (fl TC.enc want_1) want_1.length] (.vec 0 r.length 4) [(bV (fl TF.enc r) 39)] := by
 unfold aUDays at h
 obtain ⟨r1, h2, h⟩ := bnS h
 obtain ⟨o3, hl3, h⟩ := bnS h
 obtain ⟨r22, h23, h⟩ := bnS h
 obtain ⟨o24, hl24, h⟩ := bnS h
 obtain ⟨h43, h⟩ := gdS h
 obtain ⟨o44, hl44, h⟩ := bnS h
 obtain rfl := oI h
 exact Ret.of_view 400 (cs 5 ((.ret none [.any] (.tup [.vec 0 r1.1.length 1, .vec 1 r1.2.length 1]) [(bV (fl e_i64 r1.1) 3), (bV (fl e_i64 r1.2) 3)]) :: (cs 10 ((.fcut 3 (.exit 0) [(5, .mapr 1)] (aUDays_L3_B r1 o3) [1, 2, 0] [(4, .vec 0 r1.2.length 1), (5, .any), (14, .vec 2 r1.1.length 1), (15, .any), (16, jI (↑(0 : Nat) : Int))] [bS, bS, bS]) :: (cs 6 ((.ret none [.any] (.tup [.vec 0 r22.1.length 1, .vec 1 r22.2.length 1]) [(bV (fl e_i64 r22.1) 3), (bV (fl e_i64 r22.2) 3)]) :: (cs 10 ((.fcut 3 (.exit 0) [(5, .mapr 1)] (aUDays_L3_B r22 o24) [7, 8, 6] [(4, .vec 0 r22.2.length 1), (5, .any), (14, .vec 2 r22.1.length 1), (15, .any), (16, jI (↑(0 : Nat) : Int))] [bS, bS, bS]) :: (cs 9 (bf :: (cs 9 ((.spec (fspec 2 [12, 8] [.mapr 0, .mapr 1] [(bM (.i .i64) (List.map mI o3)), (bM (.i .i64) (List.map mI o24))] (.tup []) [(bM (.i .i64) (List.map mI (mrgK fst (o3) (o24)))), (bM (.i .i64) (List.map mI o24))])) :: (cs 8 ((.spec (fspec 2 [15, 12] [.fn (.func 69) [] [.ptr 0 0]] [(bF [.mapr 1] 112), (bM (.i .i64) (List.map mI (mrgK fst (o3) (o24))))] (.vec 2 ((sortI (List.map fst (mrgK fst (o3) (o24)))).length) 1) [(bF [.mapr 1] 112), (bM (.i .i64) (List.map mI (mrgK fst (o3) (o24)))), (bV (fl e_i64 (sortI (List.map fst (mrgK fst (o3) (o24))))) 3)])) :: (cs 2 ((.tr (.vec (.t 8) 4 39)) :: (.fcut 3 (.exit 0) [(8, .vec 3 o44.length 4)] (aUDays_L44_B o3 o24 o44) [2, 8, 18, 19] [(5, .any), (6, .any), (8, .vec 3 (([] : (List TF)).length) 4), (22, .vec 2 ((sortI (List.map fst (mrgK fst (o3) (o24)))).length) 1), (23, .any), (24, jI (↑(0 : Nat) : Int))] [bS, bS, bS, (bV (fl TF.enc ([] : (List TF))) 39)]) :: (cs 2 []))))))))))))))))) [23] (by kernel_rfl) (by kernel_rfl) (k2 (bill_Days_ret have_0 r1 h2) (k2 ((by first | rfl | simp only [List.length_replicate, List.length_set]) : (.vec 1 r1.2.length 1 : AV) = .vec 1 r1.2.length 1) (k2 ((by first | rfl | simp only [List.length_replicate, List.length_set]) : (.vec 0 r1.1.length 1 : AV) = .vec 0 r1.1.length 1) (k2 (rfl : (jI 0 : AV) = jI (↑(0 : Nat) : Int)) (k2 (aUDays_L3_does r1 (s := ((0 : Nat), ([] : List (Int × Int)))) (r := o3) hl3) (k2 (bill_Days_ret want_1 r22 h23) (k2 ((by first | rfl | simp only [List.length_replicate, List.length_set]) : (.vec 7 r22.2.length 1 : AV) = .vec 7 r22.2.length 1) (k2 ((by first | rfl | simp only [List.length_replicate, List.length_set]) : (.vec 6 r22.1.length 1 : AV) = .vec 6 r22.1.length 1) (k2 (rfl : (jI 0 : AV) = jI (↑(0 : Nat) : Int)) (k2 (aUDays_L3_does r22 (s := ((0 : Nat), ([] : List (Int × Int)))) (r := o24) hl24) (k2 (rfl : false = false) (k2 ((fspec_ok _ (mcpI_calls (o3) (o24))) : SpecOk Tryz.prog G0 44 (fspec 2 [12, 8] [.mapr 0, .mapr 1] [(bM (.i .i64) (List.map mI o3)), (bM (.i .i64) (List.map mI o24))] (.tup []) [(bM (.i .i64) (List.map mI (mrgK fst (o3) (o24)))), (bM (.i .i64) (List.map mI o24))])) (k2 (⟨rfl, rfl, rfl, trivial⟩ : (([.mapr 12, .mapr 8] : List AV) = [.mapr 12, .mapr 8]) ∧ (some (Ob.map (.i .i64) (List.map mI o3)) = some (Ob.map (.i .i64) (List.map mI o3))) ∧ (some (Ob.map (.i .i64) (List.map mI o24)) = some (Ob.map (.i .i64) (List.map mI o24))) ∧ True) (k2 ((fspec_ok _ (sortedI_calls (mrgK fst (o3) (o24)) h43)) : SpecOk Tryz.prog G0 45 (fspec 2 [15, 12] [.fn (.func 69) [] [.ptr 0 0]] [(bF [.mapr 1] 112), (bM (.i .i64) (List.map mI (mrgK fst (o3) (o24))))] (.vec 2 ((sortI (List.map fst (mrgK fst (o3) (o24)))).length) 1) [(bF [.mapr 1] 112), (bM (.i .i64) (List.map mI (mrgK fst (o3) (o24)))), (bV (fl e_i64 (sortI (List.map fst (mrgK fst (o3) (o24))))) 3)])) (k2 (⟨rfl, rfl, rfl, trivial⟩ : (([.fn (.func 69) [] [.ptr 15 0]] : List AV) = [.fn (.func 69) [] [.ptr 15 0]]) ∧ (some (Ob.blk (bF [.mapr 12] 112)) = some (Ob.blk (bF [.mapr 12] 112))) ∧ (some (Ob.map (.i .i64) (List.map mI (mrgK fst (o3) (o24)))) = some (Ob.map (.i .i64) (List.map mI (mrgK fst (o3) (o24))))) ∧ True) (k2 ((by first | rfl | simp only [List.length_replicate, List.length_set]) : (.vec 19 0 4 : AV) = .vec 19 (([] : (List TF)).length) 4) (k2 ((by first | rfl | simp only [List.length_replicate, List.length_set]) : (.vec 18 ((sortI (List.map fst (mrgK fst (o3) (o24)))).length) 1 : AV) = .vec 18 ((sortI (List.map fst (mrgK fst (o3) (o24)))).length) 1) (k2 (rfl : (jI 0 : AV) = jI (↑(0 : Nat) : Int)) (k2 (rfl : ((bV [] 39) : Blk) = renB [2, 8, 18, 19] (bV (fl TF.enc ([] : (List TF))) 39)) (ok1 (aUDays_L44_does o3 o24 (s := ((0 : Nat), ([] : (List TF)))) (r := o44) hl44)))))))))))))))))))))
end
end Go.Proofs.YtpadimnchmghpaaGreatDoor.Av
