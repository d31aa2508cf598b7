import Derived.Test.YtpadimnchmghpaaGreatDoorR0
import Derived.Test.YtpadimnchmghpaaGreatDoorN2
open Prod (fst)
open Int (tdiv tmod)
set_option maxHeartbeats 4000000
set_option maxRecDepth 100000
set_option linter.unusedVariables false
set_option linter.unusedSimpArgs false
namespace Go.Proofs.YtpadimnchmghpaaGreatDoor.Av
noncomputable section
open Go Go.Proofs
def f04Day (t_0 : Int) : Option Int :=
 if t_0 ≥ (0 : Int) then
  if t_0 < (68719476736 : Int) then
   if InR .i64 (tdiv t_0 86400) then
    some (tdiv t_0 86400)
   else none
  else
   some (-1)
 else
  some (-1)
theorem f04Day_ret (t_0 : Int) (r : Int) (h : f04Day t_0 = some r) : Ret Tryz.prog G0 66 [.int .i64 t_0] (.int .i64 r) [] := by
 unfold f04Day at h
 let f53 : List CH := (cs 5 [oa, oc])
 rcases itS h with ⟨c1, h⟩ | ⟨c1, h⟩
 ·let f54 : List CH := (tc :: oa :: (cs 3 []))
  rcases itS h with ⟨c2, h⟩ | ⟨c2, h⟩
  ·obtain ⟨h3, h⟩ := gdS h
   obtain rfl := oI h
   exact Ret.of_view 400 (f53 ++ (f54 ++ [.br false, oc, ow, oc])) [] (by kernel_rfl) (by kernel_rfl) (k2 (dT c1) (k2 (not_f (dT c2)) (k2 ((by decide) : 86400 ≠ (0 : Int)) (ok1 h3))))
  ·obtain rfl := oI h
   exact Ret.of_view 400 (f53 ++ (f54 ++ [.br true, oc])) [] (by kernel_rfl) (by kernel_rfl) (k2 (dT c1) (ok1 (not_t (dF c2))))
 ·obtain rfl := oI h
  exact Ret.of_view 400 (f53 ++ (oF :: (cs 4 [.br true, oc]))) [] (by kernel_rfl) (by kernel_rfl) (k2 (dF c1) (ok1 (rfl : true = true)))
def f07Insert_L45_step (s_1 : (List UInt8)) (x39 : (List UInt8)) : Nat → Option (Nat ⊕ (Bool ⊕ Unit)) := fun k5 =>
 if (↑k5 : Int) < (↑s_1.length : Int) then
  if (↑k5 : Int) < (↑x39.length : Int) then
   (s_1[k5]?).bind fun x56 =>
   (x39[k5]?).bind fun x58 =>
   if (x56.toNat : Int) = (x58.toNat : Int) then
    if InR .i64 ((↑k5 : Int) + 1) then
     some (Sum.inl (k5 + 1))
    else none
   else
    some (Sum.inr (Sum.inl (decide ((x56.toNat : Int) < (x58.toNat : Int)))))
  else
   some (Sum.inr (Sum.inr (())))
 else
  some (Sum.inr (Sum.inr (())))
def f07Insert_L45_H (s_1 : (List UInt8)) (x39 : (List UInt8)) : Nat → St := fun (s : Nat) => S 37 [(0, .str s_1), (1, .str x39), (5, .int .i64 (↑s : Int))] []
def f07Insert_L45_X (s_1 : (List UInt8)) (x39 : (List UInt8)) : (Bool ⊕ Unit) → AEx := fun q => match q with | Sum.inl o => .ret | Sum.inr (o) => (.exit 0)
def f07Insert_L45_T (s_1 : (List UInt8)) (x39 : (List UInt8)) : (Bool ⊕ Unit) → List (Nat × AV) := fun q => match q with | Sum.inl o => [(4, .bool o)] | Sum.inr (o) => [(0, .str s_1), (1, .str x39)]
def f07Insert_L45_B (s_1 : (List UInt8)) (x39 : (List UInt8)) : (Bool ⊕ Unit) → List Blk := fun q => match q with | Sum.inl o => [] | Sum.inr (o) => []
def f07Insert_L45_E (s_1 : (List UInt8)) (x39 : (List UInt8)) (q : Bool ⊕ Unit) : St := S 37 (f07Insert_L45_T s_1 x39 q) (f07Insert_L45_B s_1 x39 q)
theorem f07Insert_L45_does (s_1 : (List UInt8)) (x39 : (List UInt8)) {s : Nat} {r : Bool ⊕ Unit} (h : lp (f07Insert_L45_step s_1 x39) s = some r) : Does Tryz.prog G0 0 (.loop (bodyAt Tryz.prog 88 [1, 0, 1, 0, 0])) (f07Insert_L45_H s_1 x39 s) (f07Insert_L45_X s_1 x39 r) (f07Insert_L45_E s_1 x39 r) := by
 refine Does.lp (H := f07Insert_L45_H s_1 x39) (X := f07Insert_L45_X s_1 x39) (E := f07Insert_L45_E s_1 x39) (fun s s2 h => ?_) (fun s r h => ?_) h
 ·revert h; revert s; intro k5 h
  unfold f07Insert_L45_step at h
  try dsimp only at h
  rcases itS h with ⟨c54, h⟩ | ⟨c54, h⟩
  ·rcases itS h with ⟨c55, h⟩ | ⟨c55, h⟩
   ·obtain ⟨x56, h57, h⟩ := bnS h
    obtain ⟨x58, h59, h⟩ := bnS h
    rcases itS h with ⟨c60, h⟩ | ⟨c60, h⟩
    ·obtain ⟨h61, h⟩ := gdS h
     obtain rfl := oL h
     exact Does.of_viewM 0 400 (cs 3 (oa :: oc :: tc :: (cs 2 (oa :: oc :: bt :: (cs 2 ((.op none (.i k5)) :: (.trp (.eqt (.t 20) (.int .u8 (x56.toNat : Int)))) :: (cs 2 [.op none (.i k5), .trp (.eqt (.t 23) (.int .u8 (x58.toNat : Int))), oa, .br false, oc, ow, oc]))))))) [] (by kernel_rfl) (by kernel_rfl) (k2 (dT c54) (k2 (dT c55) (k2 (ir h57) (k2 ((getD_u8 h57) : (.int .u8 ((List.getD s_1 k5 0).toNat : Int) : AV) = .int .u8 (x56.toNat : Int)) (k2 (ir h59) (k2 ((getD_u8 h59) : (.int .u8 ((List.getD x39 k5 0).toNat : Int) : AV) = .int .u8 (x58.toNat : Int)) (k2 (not_f (beq_t c60)) (ok1 h61))))))))
    ·simp at h
   ·simp at h
  ·simp at h
 ·revert h; revert s; intro k5 h
  unfold f07Insert_L45_step at h
  try dsimp only at h
  let f69 : List CH := (cs 3 [oa, oc])
  rcases itS h with ⟨c54, h⟩ | ⟨c54, h⟩
  ·let f70 : List CH := (tc :: (cs 2 [oa, oc]))
   rcases itS h with ⟨c55, h⟩ | ⟨c55, h⟩
   ·obtain ⟨x56, h57, h⟩ := bnS h
    obtain ⟨x58, h59, h⟩ := bnS h
    rcases itS h with ⟨c60, h⟩ | ⟨c60, h⟩
    ·obtain ⟨h61, h⟩ := gdS h
     simp at h
    ·obtain rfl := oR h
     exact ⟨Does.of_viewM 0 400 (f69 ++ (f70 ++ (bt :: (cs 2 ((.op none (.i k5)) :: (.trp (.eqt (.t 20) (.int .u8 (x56.toNat : Int)))) :: (cs 2 ((.op none (.i k5)) :: (.trp (.eqt (.t 23) (.int .u8 (x58.toNat : Int)))) :: oa :: bt :: (cs 2 ((.op none (.i k5)) :: (.trp (.eqt (.t 27) (.int .u8 (x56.toNat : Int)))) :: (cs 2 [.op none (.i k5), .trp (.eqt (.t 30) (.int .u8 (x58.toNat : Int))), oa, oc])))))))))) [] (by kernel_rfl) (by kernel_rfl) (k2 (dT c54) (k2 (dT c55) (k2 (ir h57) (k2 ((getD_u8 h57) : (.int .u8 ((List.getD s_1 k5 0).toNat : Int) : AV) = .int .u8 (x56.toNat : Int)) (k2 (ir h59) (k2 ((getD_u8 h59) : (.int .u8 ((List.getD x39 k5 0).toNat : Int) : AV) = .int .u8 (x58.toNat : Int)) (k2 (not_t (beq_f c60)) (k2 (ir h57) (k2 ((getD_u8 h57) : (.int .u8 ((List.getD s_1 k5 0).toNat : Int) : AV) = .int .u8 (x56.toNat : Int)) (k2 (ir h59) (ok1 ((getD_u8 h59) : (.int .u8 ((List.getD x39 k5 0).toNat : Int) : AV) = .int .u8 (x58.toNat : Int))))))))))))), by intro q; cases q⟩
   ·obtain rfl := oR h
    exact ⟨Does.of_viewM 0 400 (f69 ++ (f70 ++ [.br false])) [] (by kernel_rfl) (by kernel_rfl) (k2 (dT c54) (ok1 (dF c55))), by intro q; cases q⟩
  ·obtain rfl := oR h
   exact ⟨Does.of_viewM 0 400 (f69 ++ (oF :: (cs 4 [.br false]))) [] (by kernel_rfl) (by kernel_rfl) (k2 (dF c54) (ok1 (rfl : false = false))), by intro q; cases q⟩
def f07Insert_L1_step (l_0 : (List (List UInt8))) (s_1 : (List UInt8)) : (Bool × Nat × (List (List UInt8))) → Option ((Bool × Nat × (List (List UInt8))) ⊕ (Unit ⊕ (Bool × (List (List UInt8)))))
 | (v6, k7, b0) =>
  if (↑k7 : Int) < (↑l_0.length : Int) then
   (l_0[k7]?).bind fun x39 =>
   if x39 = s_1 then
    some (Sum.inr (Sum.inl ()))
   else
    if v6 = true then
     if b0.length + 1 ≤ 4294967296 then
      if InR .i64 ((↑k7 : Int) + 1) then
       some (Sum.inl (v6, (k7 + 1), (b0 ++ [x39])))
      else none
     else none
    else
     (lp (f07Insert_L45_step s_1 x39) (0 : Nat)).bind fun qq => match qq with
     | Sum.inl o45 =>
      if o45 = true then
       if b0.length + 1 ≤ 4294967296 then
        if ((b0 ++ [s_1]).length) + 1 ≤ 4294967296 then
         if InR .i64 ((↑k7 : Int) + 1) then
          some (Sum.inl (true, (k7 + 1), ((b0 ++ [s_1]) ++ [x39])))
         else none
        else none
       else none
      else
       if b0.length + 1 ≤ 4294967296 then
        if InR .i64 ((↑k7 : Int) + 1) then
         some (Sum.inl (v6, (k7 + 1), (b0 ++ [x39])))
        else none
       else none
     | Sum.inr (o45) =>
      if (↑s_1.length : Int) < (↑x39.length : Int) then
       if b0.length + 1 ≤ 4294967296 then
        if ((b0 ++ [s_1]).length) + 1 ≤ 4294967296 then
         if InR .i64 ((↑k7 : Int) + 1) then
          some (Sum.inl (true, (k7 + 1), ((b0 ++ [s_1]) ++ [x39])))
         else none
        else none
       else none
      else
       if b0.length + 1 ≤ 4294967296 then
        if InR .i64 ((↑k7 : Int) + 1) then
         some (Sum.inl (v6, (k7 + 1), (b0 ++ [x39])))
        else none
       else none
  else
   some (Sum.inr (Sum.inr ((v6, b0))))
def f07Insert_L1_H (l_0 : (List (List UInt8))) (s_1 : (List UInt8)) : (Bool × Nat × (List (List UInt8))) → St := fun (s : (Bool × Nat × (List (List UInt8)))) => S 49 [(0, .lst (fl e_str l_0) l_0.length), (1, .str s_1), (5, .vec 0 s.2.2.length 1), (6, .bool s.1), (7, .int .i64 (↑s.2.1 : Int))] [(bV (fl e_str s.2.2) 9)]
def f07Insert_L1_X (l_0 : (List (List UInt8))) (s_1 : (List UInt8)) : (Unit ⊕ (Bool × (List (List UInt8)))) → AEx := fun q => match q with | Sum.inl o => .ret | Sum.inr (o) => (.exit 0)
def f07Insert_L1_T (l_0 : (List (List UInt8))) (s_1 : (List UInt8)) : (Unit ⊕ (Bool × (List (List UInt8)))) → List (Nat × AV) := fun q => match q with | Sum.inl o => [(4, .lst (fl e_str l_0) l_0.length)] | Sum.inr (o) => [(1, .str s_1), (5, .vec 0 o.2.length 1), (6, .bool o.1)]
def f07Insert_L1_B (l_0 : (List (List UInt8))) (s_1 : (List UInt8)) : (Unit ⊕ (Bool × (List (List UInt8)))) → List Blk := fun q => match q with | Sum.inl o => [] | Sum.inr (o) => [(bV (fl e_str o.2) 9)]
def f07Insert_L1_E (l_0 : (List (List UInt8))) (s_1 : (List UInt8)) (q : Unit ⊕ (Bool × (List (List UInt8)))) : St := S 49 (f07Insert_L1_T l_0 s_1 q) (f07Insert_L1_B l_0 s_1 q)
theorem f07Insert_L1_does (l_0 : (List (List UInt8))) (s_1 : (List UInt8)) {s : (Bool × Nat × (List (List UInt8)))} {r : Unit ⊕ (Bool × (List (List UInt8)))} (h : lp (f07Insert_L1_step l_0 s_1) s = some r) : Does Tryz.prog G0 0 (.loop (bodyAt Tryz.prog 63 [1, 1, 1, 0, 1, 0, 0])) (f07Insert_L1_H l_0 s_1 s) (f07Insert_L1_X l_0 s_1 r) (f07Insert_L1_E l_0 s_1 r) := by
 refine Does.lp (H := f07Insert_L1_H l_0 s_1) (X := f07Insert_L1_X l_0 s_1) (E := f07Insert_L1_E l_0 s_1) (fun s s2 h => ?_) (fun s r h => ?_) h
 ·obtain ⟨v6, k7, b0⟩ := s
  unfold f07Insert_L1_step at h
  try dsimp only at h
  rcases itS h with ⟨c38, h⟩ | ⟨c38, h⟩
  ·obtain ⟨x39, h40, h⟩ := bnS h
   rcases itS h with ⟨c41, h⟩ | ⟨c41, h⟩
   ·simp at h
   ·let f71 : List CH := (cs 3 (oa :: bt :: (cs 2 ((.op none (.i k7)) :: (.op none (.v [.str x39])) :: oc :: oa :: bf :: (cs 3 [])))))
    have g72 := k2 (dT c38) (k2 (ir h40) (k2 (fl_ne (f := e_str) (z := 0) (fun _ => rfl) h40) (k2 (s_str h40) (ok1 (beq_f c41)))))
    rcases itS h with ⟨c42, h⟩ | ⟨c42, h⟩
    ·obtain ⟨h43, h⟩ := gdS h
     obtain ⟨h44, h⟩ := gdS h
     obtain rfl := oL h
     exact Does.of_viewM 0 400 (f71 ++ (oF :: (cs 6 (bf :: (cs 3 ((.op none (.i k7)) :: (.op none (.v [.str x39])) :: oc :: (.op none (.ap 4)) :: (.tr (.eqc 2 (fl e_str (b0 ++ [x39])))) :: (.tr (.eqt (.t 41) (.vec 2 ((b0 ++ [x39]).length) 1))) :: (cs 2 [ow, oc]))))))) [2] (by kernel_rfl) (by kernel_rfl) (aO g72 (k2 ((not_f c42) : (!v6) = false) (k2 (rfl : false = false) (k2 (ir h40) (k2 (fl_ne (f := e_str) (z := 0) (fun _ => rfl) h40) (k2 (s_str h40) (k2 ((nB rfl) : 0 + 1 ≤ List.length ([.str x39] : List AV)) (k2 ((fl_length1 (f := e_str) (fun _ => rfl) _) : List.length ((fl e_str b0) : List AV) = b0.length) (k2 (rfl : List.all ([.str x39] : List AV) AV.one = true) (k2 h43 (k2 ((fl_snoc rfl) : (fl e_str b0) ++ [.str x39] = (fl e_str (b0 ++ [x39]))) (k2 ((by simp <;> omega) : (.vec 2 (b0.length + 1) 1 : AV) = .vec 2 ((b0 ++ [x39]).length) 1) (ok1 h44)))))))))))))
    ·let f73 : List CH := (tc :: (cs 2 ((.op none (.i k7)) :: (.op none (.v [.str x39])) :: (cs 3 []))))
     have g74 := k2 ((not_t (eq_false_of_ne_true c42)) : (!v6) = true) (k2 (ir h40) (k2 (fl_ne (f := e_str) (z := 0) (fun _ => rfl) h40) (k2 (s_str h40) (ok1 (rfl : (.int .i64 0 : AV) = .int .i64 (↑(0 : Nat) : Int))))))
     obtain ⟨qq, hl45, h⟩ := bnS h
     rcases qq with o45 | o45
     ·dsimp only at h
      rcases itS h with ⟨c62, h⟩ | ⟨c62, h⟩
      ·obtain ⟨h63, h⟩ := gdS h
       obtain ⟨h64, h⟩ := gdS h
       obtain ⟨h65, h⟩ := gdS h
       obtain rfl := oL h
       exact Does.of_viewM 0 400 (f71 ++ (f73 ++ ((.fcut 0 .ret [(4, .bool o45)] [] [] [(0, .any), (1, .any), (5, jI (↑(0 : Nat) : Int))] []) :: oc :: bt :: (cs 3 ((.op none (.ap 4)) :: (.tr (.eqc 2 (fl e_str (b0 ++ [s_1])))) :: (.tr (.eqt (.t 34) (.vec 2 ((b0 ++ [s_1]).length) 1))) :: (cs 5 ((.op none (.i k7)) :: (.op none (.v [.str x39])) :: oc :: (.op none (.ap 4)) :: (.tr (.eqc 4 (fl e_str ((b0 ++ [s_1]) ++ [x39])))) :: (.tr (.eqt (.t 41) (.vec 4 (((b0 ++ [s_1]) ++ [x39]).length) 1))) :: (cs 2 [ow, oc])))))))) [4] (by kernel_rfl) (by kernel_rfl) (aO g72 (aO g74 (k2 (f07Insert_L45_does s_1 x39 (s := (0 : Nat)) (r := Sum.inl o45) hl45) (k2 c62 (k2 ((nB rfl) : 0 + 1 ≤ List.length ([.str s_1] : List AV)) (k2 ((fl_length1 (f := e_str) (fun _ => rfl) _) : List.length ((fl e_str b0) : List AV) = b0.length) (k2 (rfl : List.all ([.str s_1] : List AV) AV.one = true) (k2 h63 (k2 ((fl_snoc rfl) : (fl e_str b0) ++ [.str s_1] = (fl e_str (b0 ++ [s_1]))) (k2 ((by simp <;> omega) : (.vec 2 (b0.length + 1) 1 : AV) = .vec 2 ((b0 ++ [s_1]).length) 1) (k2 (ir h40) (k2 (fl_ne (f := e_str) (z := 0) (fun _ => rfl) h40) (k2 (s_str h40) (k2 ((nB rfl) : 0 + 1 ≤ List.length ([.str x39] : List AV)) (k2 ((fl_length1 (f := e_str) (fun _ => rfl) _) : List.length ((fl e_str (b0 ++ [s_1])) : List AV) = ((b0 ++ [s_1]).length)) (k2 (rfl : List.all ([.str x39] : List AV) AV.one = true) (k2 h64 (k2 ((fl_snoc rfl) : (fl e_str (b0 ++ [s_1])) ++ [.str x39] = (fl e_str ((b0 ++ [s_1]) ++ [x39]))) (k2 ((by simp <;> omega) : (.vec 4 (((b0 ++ [s_1]).length) + 1) 1 : AV) = .vec 4 (((b0 ++ [s_1]) ++ [x39]).length) 1) (ok1 h65))))))))))))))))))))
      ·obtain ⟨h66, h⟩ := gdS h
       obtain ⟨h67, h⟩ := gdS h
       obtain rfl := oL h
       exact Does.of_viewM 0 400 (f71 ++ (f73 ++ ((.fcut 0 .ret [(4, .bool o45)] [] [] [(0, .any), (1, .any), (5, jI (↑(0 : Nat) : Int))] []) :: oc :: bf :: (cs 3 ((.op none (.i k7)) :: (.op none (.v [.str x39])) :: oc :: (.op none (.ap 4)) :: (.tr (.eqc 2 (fl e_str (b0 ++ [x39])))) :: (.tr (.eqt (.t 41) (.vec 2 ((b0 ++ [x39]).length) 1))) :: (cs 2 [ow, oc])))))) [2] (by kernel_rfl) (by kernel_rfl) (aO g72 (aO g74 (k2 (f07Insert_L45_does s_1 x39 (s := (0 : Nat)) (r := Sum.inl o45) hl45) (k2 ((eq_false_of_ne_true c62) : o45 = false) (k2 (ir h40) (k2 (fl_ne (f := e_str) (z := 0) (fun _ => rfl) h40) (k2 (s_str h40) (k2 ((nB rfl) : 0 + 1 ≤ List.length ([.str x39] : List AV)) (k2 ((fl_length1 (f := e_str) (fun _ => rfl) _) : List.length ((fl e_str b0) : List AV) = b0.length) (k2 (rfl : List.all ([.str x39] : List AV) AV.one = true) (k2 h66 (k2 ((fl_snoc rfl) : (fl e_str b0) ++ [.str x39] = (fl e_str (b0 ++ [x39]))) (k2 ((by simp <;> omega) : (.vec 2 (b0.length + 1) 1 : AV) = .vec 2 ((b0 ++ [x39]).length) 1) (ok1 h67))))))))))))))
     ·dsimp only at h
      let f75 : List CH := ((.fcut 0 (.exit 0) [(0, .str s_1), (1, .str x39)] [] [] [(0, .any), (1, .any), (5, .int .i64 (↑(0 : Nat) : Int))] []) :: (cs 4 (oa :: (cs 2 []))))
      rcases itS h with ⟨c68, h⟩ | ⟨c68, h⟩
      ·obtain ⟨h69, h⟩ := gdS h
       obtain ⟨h70, h⟩ := gdS h
       obtain ⟨h71, h⟩ := gdS h
       obtain rfl := oL h
       exact Does.of_viewM 0 400 (f71 ++ (f73 ++ (f75 ++ (bt :: (cs 3 ((.op none (.ap 4)) :: (.tr (.eqc 2 (fl e_str (b0 ++ [s_1])))) :: (.tr (.eqt (.t 34) (.vec 2 ((b0 ++ [s_1]).length) 1))) :: (cs 5 ((.op none (.i k7)) :: (.op none (.v [.str x39])) :: oc :: (.op none (.ap 4)) :: (.tr (.eqc 4 (fl e_str ((b0 ++ [s_1]) ++ [x39])))) :: (.tr (.eqt (.t 41) (.vec 4 (((b0 ++ [s_1]) ++ [x39]).length) 1))) :: (cs 2 [ow, oc]))))))))) [4] (by kernel_rfl) (by kernel_rfl) (aO g72 (aO g74 (k2 (f07Insert_L45_does s_1 x39 (s := (0 : Nat)) (r := Sum.inr (o45)) hl45) (k2 (dT c68) (k2 ((nB rfl) : 0 + 1 ≤ List.length ([.str s_1] : List AV)) (k2 ((fl_length1 (f := e_str) (fun _ => rfl) _) : List.length ((fl e_str b0) : List AV) = b0.length) (k2 (rfl : List.all ([.str s_1] : List AV) AV.one = true) (k2 h69 (k2 ((fl_snoc rfl) : (fl e_str b0) ++ [.str s_1] = (fl e_str (b0 ++ [s_1]))) (k2 ((by simp <;> omega) : (.vec 2 (b0.length + 1) 1 : AV) = .vec 2 ((b0 ++ [s_1]).length) 1) (k2 (ir h40) (k2 (fl_ne (f := e_str) (z := 0) (fun _ => rfl) h40) (k2 (s_str h40) (k2 ((nB rfl) : 0 + 1 ≤ List.length ([.str x39] : List AV)) (k2 ((fl_length1 (f := e_str) (fun _ => rfl) _) : List.length ((fl e_str (b0 ++ [s_1])) : List AV) = ((b0 ++ [s_1]).length)) (k2 (rfl : List.all ([.str x39] : List AV) AV.one = true) (k2 h70 (k2 ((fl_snoc rfl) : (fl e_str (b0 ++ [s_1])) ++ [.str x39] = (fl e_str ((b0 ++ [s_1]) ++ [x39]))) (k2 ((by simp <;> omega) : (.vec 4 (((b0 ++ [s_1]).length) + 1) 1 : AV) = .vec 4 (((b0 ++ [s_1]) ++ [x39]).length) 1) (ok1 h71))))))))))))))))))))
      ·obtain ⟨h72, h⟩ := gdS h
       obtain ⟨h73, h⟩ := gdS h
       obtain rfl := oL h
       exact Does.of_viewM 0 400 (f71 ++ (f73 ++ (f75 ++ (bf :: (cs 3 ((.op none (.i k7)) :: (.op none (.v [.str x39])) :: oc :: (.op none (.ap 4)) :: (.tr (.eqc 2 (fl e_str (b0 ++ [x39])))) :: (.tr (.eqt (.t 41) (.vec 2 ((b0 ++ [x39]).length) 1))) :: (cs 2 [ow, oc]))))))) [2] (by kernel_rfl) (by kernel_rfl) (aO g72 (aO g74 (k2 (f07Insert_L45_does s_1 x39 (s := (0 : Nat)) (r := Sum.inr (o45)) hl45) (k2 (dF c68) (k2 (ir h40) (k2 (fl_ne (f := e_str) (z := 0) (fun _ => rfl) h40) (k2 (s_str h40) (k2 ((nB rfl) : 0 + 1 ≤ List.length ([.str x39] : List AV)) (k2 ((fl_length1 (f := e_str) (fun _ => rfl) _) : List.length ((fl e_str b0) : List AV) = b0.length) (k2 (rfl : List.all ([.str x39] : List AV) AV.one = true) (k2 h72 (k2 ((fl_snoc rfl) : (fl e_str b0) ++ [.str x39] = (fl e_str (b0 ++ [x39]))) (k2 ((by simp <;> omega) : (.vec 2 (b0.length + 1) 1 : AV) = .vec 2 ((b0 ++ [x39]).length) 1) (ok1 h73))))))))))))))
  ·simp at h
 ·obtain ⟨v6, k7, b0⟩ := s
  unfold f07Insert_L1_step at h
  try dsimp only at h
  let f76 : List CH := (cs 3 [oa])
  rcases itS h with ⟨c38, h⟩ | ⟨c38, h⟩
  ·obtain ⟨x39, h40, h⟩ := bnS h
   rcases itS h with ⟨c41, h⟩ | ⟨c41, h⟩
   ·obtain rfl := oR h
    exact ⟨Does.of_viewM 0 400 (f76 ++ (bt :: (cs 2 ((.op none (.i k7)) :: (.op none (.v [.str x39])) :: oc :: oa :: bt :: (cs 2 []))))) [] (by kernel_rfl) (by kernel_rfl) (k2 (dT c38) (k2 (ir h40) (k2 (fl_ne (f := e_str) (z := 0) (fun _ => rfl) h40) (k2 (s_str h40) (ok1 (beq_t c41)))))), by intro q; cases q⟩
   ·rcases itS h with ⟨c42, h⟩ | ⟨c42, h⟩
    ·obtain ⟨h43, h⟩ := gdS h
     obtain ⟨h44, h⟩ := gdS h
     simp at h
    ·obtain ⟨qq, hl45, h⟩ := bnS h
     rcases qq with o45 | o45
     ·dsimp only at h
      rcases itS h with ⟨c62, h⟩ | ⟨c62, h⟩
      ·obtain ⟨h63, h⟩ := gdS h
       obtain ⟨h64, h⟩ := gdS h
       obtain ⟨h65, h⟩ := gdS h
       simp at h
      ·obtain ⟨h66, h⟩ := gdS h
       obtain ⟨h67, h⟩ := gdS h
       simp at h
     ·dsimp only at h
      rcases itS h with ⟨c68, h⟩ | ⟨c68, h⟩
      ·obtain ⟨h69, h⟩ := gdS h
       obtain ⟨h70, h⟩ := gdS h
       obtain ⟨h71, h⟩ := gdS h
       simp at h
      ·obtain ⟨h72, h⟩ := gdS h
       obtain ⟨h73, h⟩ := gdS h
       simp at h
  ·obtain rfl := oR h
   exact ⟨Does.of_viewM 0 400 (f76 ++ [.br false]) [0] (by kernel_rfl) (by kernel_rfl) (ok1 (dF c38)), by intro q; cases q⟩
def f07Insert (l_0 : (List (List UInt8))) (s_1 : (List UInt8)) : Option (List (List UInt8)) :=
 (lp (f07Insert_L1_step l_0 s_1) (false, (0 : Nat), ([] : (List (List UInt8))))).bind fun qq => match qq with
 | Sum.inl o1 =>
  some l_0
 | Sum.inr (o1) =>
  if o1.1 = true then
   some o1.2
  else
   if o1.2.length + 1 ≤ 4294967296 then
    some (o1.2 ++ [s_1])
   else none
theorem f07Insert_ret (l_0 : (List (List UInt8))) (s_1 : (List UInt8)) (r : (List (List UInt8))) (h : f07Insert l_0 s_1 = some r) : Ret Tryz.prog G0 63 [.lst (fl e_str l_0) l_0.length, .str s_1] (.lst (fl e_str r) r.length) [] := by
 unfold f07Insert at h
 let f77 : List CH := (cs 4 [.tr (.vec (.t 5) 1 9)])
 have g78 := k2 ((by first | rfl | simp only [List.length_replicate, List.length_set]) : (.vec 0 0 1 : AV) = .vec 0 (([] : (List (List UInt8))).length) 1) (k2 (rfl : (.int .i64 0 : AV) = .int .i64 (↑(0 : Nat) : Int)) (ok1 (rfl : ((bV [] 9) : Blk) = renB [0] (bV (fl e_str ([] : (List (List UInt8)))) 9))))
 obtain ⟨qq, hl1, h⟩ := bnS h
 rcases qq with o1 | o1
 ·dsimp only at h
  obtain rfl := oI h
  exact Ret.of_view 400 (f77 ++ [.fcut 0 .ret [(4, .lst (fl e_str l_0) l_0.length)] [] [0] [(0, .any), (1, .any), (5, .vec 0 (([] : (List (List UInt8))).length) 1), (6, .any), (7, jI (↑(0 : Nat) : Int))] [(bV (fl e_str ([] : (List (List UInt8)))) 9)]]) [] (by kernel_rfl) (by kernel_rfl) (aO g78 (ok1 (f07Insert_L1_does l_0 s_1 (s := (false, (0 : Nat), ([] : (List (List UInt8))))) (r := Sum.inl o1) hl1)))
 ·dsimp only at h
  let f79 : List CH := ((.fcut 0 (.exit 0) (f07Insert_L1_T l_0 s_1 (Sum.inr (o1))) [(bV (fl e_str o1.2) 9)] [0] [(0, .any), (1, .any), (5, .vec 0 (([] : (List (List UInt8))).length) 1), (6, .any), (7, .int .i64 (↑(0 : Nat) : Int))] [(bV (fl e_str ([] : (List (List UInt8)))) 9)]) :: (cs 2 []))
  rcases itS h with ⟨c74, h⟩ | ⟨c74, h⟩
  ·obtain rfl := oI h
   exact Ret.of_view 400 (f77 ++ (f79 ++ (bf :: (cs 2 [.tr (.frz [.t 5, .t 48, .t 4] (fl e_str o1.2) o1.2.length)])))) [] (by kernel_rfl) (by kernel_rfl) (aO g78 (k2 (f07Insert_L1_does l_0 s_1 (s := (false, (0 : Nat), ([] : (List (List UInt8))))) (r := Sum.inr (o1)) hl1) (k2 ((not_f c74) : (!o1.1) = false) (k2 (⟨rfl, rfl, rfl, (fl_length1 (f := e_str) (fun _ => rfl) _)⟩ : 1 = 1 ∧ (fl e_str o1.2) = (fl e_str o1.2) ∧ o1.2.length = o1.2.length ∧ List.length ((fl e_str o1.2) : List AV) = o1.2.length) (k2 (⟨rfl, rfl, rfl, (fl_length1 (f := e_str) (fun _ => rfl) _)⟩ : 1 = 1 ∧ (fl e_str o1.2) = (fl e_str o1.2) ∧ o1.2.length = o1.2.length ∧ List.length ((fl e_str o1.2) : List AV) = o1.2.length) (ok1 (⟨rfl, rfl, rfl, (fl_length1 (f := e_str) (fun _ => rfl) _)⟩ : 1 = 1 ∧ (fl e_str o1.2) = (fl e_str o1.2) ∧ o1.2.length = o1.2.length ∧ List.length ((fl e_str o1.2) : List AV) = o1.2.length)))))))
  ·obtain ⟨h75, h⟩ := gdS h
   obtain rfl := oI h
   exact Ret.of_view 400 (f77 ++ (f79 ++ (bt :: (cs 3 ((.op none (.ap 4)) :: (.tr (.eqc 3 (fl e_str (o1.2 ++ [s_1])))) :: (.tr (.eqt (.t 47) (.vec 3 ((o1.2 ++ [s_1]).length) 1))) :: (cs 3 [.tr (.frz [.t 5, .t 47, .t 48, .t 4] (fl e_str (o1.2 ++ [s_1])) ((o1.2 ++ [s_1]).length))])))))) [] (by kernel_rfl) (by kernel_rfl) (aO g78 (k2 (f07Insert_L1_does l_0 s_1 (s := (false, (0 : Nat), ([] : (List (List UInt8))))) (r := Sum.inr (o1)) hl1) (k2 ((not_t (eq_false_of_ne_true c74)) : (!o1.1) = true) (k2 ((nB rfl) : 0 + 1 ≤ List.length ([.str s_1] : List AV)) (k2 ((fl_length1 (f := e_str) (fun _ => rfl) _) : List.length ((fl e_str o1.2) : List AV) = o1.2.length) (k2 (rfl : List.all ([.str s_1] : List AV) AV.one = true) (k2 h75 (k2 ((fl_snoc rfl) : (fl e_str o1.2) ++ [.str s_1] = (fl e_str (o1.2 ++ [s_1]))) (k2 ((by simp <;> omega) : (.vec 3 (o1.2.length + 1) 1 : AV) = .vec 3 ((o1.2 ++ [s_1]).length) 1) (k2 (⟨rfl, rfl, rfl, (fl_length1 (f := e_str) (fun _ => rfl) _)⟩ : 3 = 3 ∧ (fl e_str (o1.2 ++ [s_1])) = (fl e_str (o1.2 ++ [s_1])) ∧ ((o1.2 ++ [s_1]).length) = ((o1.2 ++ [s_1]).length) ∧ List.length ((fl e_str (o1.2 ++ [s_1])) : List AV) = ((o1.2 ++ [s_1]).length)) (k2 (⟨rfl, rfl, rfl, (fl_length1 (f := e_str) (fun _ => rfl) _)⟩ : 3 = 3 ∧ (fl e_str (o1.2 ++ [s_1])) = (fl e_str (o1.2 ++ [s_1])) ∧ ((o1.2 ++ [s_1]).length) = ((o1.2 ++ [s_1]).length) ∧ List.length ((fl e_str (o1.2 ++ [s_1])) : List AV) = ((o1.2 ++ [s_1]).length)) (k2 (⟨rfl, rfl, rfl, (fl_length1 (f := e_str) (fun _ => rfl) _)⟩ : 3 = 3 ∧ (fl e_str (o1.2 ++ [s_1])) = (fl e_str (o1.2 ++ [s_1])) ∧ ((o1.2 ++ [s_1]).length) = ((o1.2 ++ [s_1]).length) ∧ List.length ((fl e_str (o1.2 ++ [s_1])) : List AV) = ((o1.2 ++ [s_1]).length)) (ok1 (⟨rfl, rfl, rfl, (fl_length1 (f := e_str) (fun _ => rfl) _)⟩ : 3 = 3 ∧ (fl e_str (o1.2 ++ [s_1])) = (fl e_str (o1.2 ++ [s_1])) ∧ ((o1.2 ++ [s_1]).length) = ((o1.2 ++ [s_1]).length) ∧ List.length ((fl e_str (o1.2 ++ [s_1])) : List AV) = ((o1.2 ++ [s_1]).length)))))))))))))))
def f50Keys_L1_step (a_0 : (List TC)) (b_1 : (List TC)) : ((List (List UInt8)) × Nat) → Option (((List (List UInt8)) × Nat) ⊕ (List (List UInt8)))
 | (v5, k6) =>
  if (↑k6 : Int) < (↑a_0.length : Int) then
   (a_0[k6]?).bind fun x9 =>
   (f07Insert v5 x9.Key).bind fun r11 =>
   if InR .i64 ((↑k6 : Int) + 1) then
    some (Sum.inl (r11, (k6 + 1)))
   else none
  else
   some (Sum.inr v5)
def f50Keys_L1_H (a_0 : (List TC)) (b_1 : (List TC)) : ((List (List UInt8)) × Nat) → St := fun (s : ((List (List UInt8)) × Nat)) => S 35 [(0, .lst (fl TC.enc a_0) a_0.length), (1, .lst (fl TC.enc b_1) b_1.length), (5, .lst (fl e_str s.1) s.1.length), (6, .int .i64 (↑s.2 : Int))] []
def f50Keys_L1_X (a_0 : (List TC)) (b_1 : (List TC)) : (List (List UInt8)) → AEx := fun o => (.exit 0)
def f50Keys_L1_T (a_0 : (List TC)) (b_1 : (List TC)) : (List (List UInt8)) → List (Nat × AV) := fun o => [(1, .lst (fl TC.enc b_1) b_1.length), (5, .lst (fl e_str o) o.length)]
def f50Keys_L1_B (a_0 : (List TC)) (b_1 : (List TC)) : (List (List UInt8)) → List Blk := fun o => []
def f50Keys_L1_E (a_0 : (List TC)) (b_1 : (List TC)) (q : (List (List UInt8))) : St := S 35 (f50Keys_L1_T a_0 b_1 q) (f50Keys_L1_B a_0 b_1 q)
theorem f50Keys_L1_does (a_0 : (List TC)) (b_1 : (List TC)) {s : ((List (List UInt8)) × Nat)} {r : (List (List UInt8))} (h : lp (f50Keys_L1_step a_0 b_1) s = some r) : Does Tryz.prog G0 0 (.loop (bodyAt Tryz.prog 38 [1, 1, 0, 1, 0, 0])) (f50Keys_L1_H a_0 b_1 s) (f50Keys_L1_X a_0 b_1 r) (f50Keys_L1_E a_0 b_1 r) := by
 refine Does.lp (H := f50Keys_L1_H a_0 b_1) (X := f50Keys_L1_X a_0 b_1) (E := f50Keys_L1_E a_0 b_1) (fun s s2 h => ?_) (fun s r h => ?_) h
 ·obtain ⟨v5, k6⟩ := s
  unfold f50Keys_L1_step at h
  try dsimp only at h
  rcases itS h with ⟨c8, h⟩ | ⟨c8, h⟩
  ·obtain ⟨x9, h10, h⟩ := bnS h
   obtain ⟨r11, h12, h⟩ := bnS h
   obtain ⟨h13, h⟩ := gdS h
   obtain rfl := oL h
   exact Does.of_viewM 0 400 (cs 3 (oa :: bt :: (cs 3 ((.op none (.i k6)) :: oc :: (.op none (.v [.str x9.Key])) :: (.ret none [.any, .any] (.lst (fl e_str r11) r11.length) []) :: (cs 2 [ow, oc]))))) [] (by kernel_rfl) (by kernel_rfl) (k2 (dT c8) (k2 (ir h10) (k2 (fl_ne (f := TC.enc) (z := 6) (fun _ => rfl) h10) (k2 (fl_sub (f := TC.enc) (z := 7) (j := k6) (a := 0) (n := 1) (fun _ => rfl) h10 (by decide) rfl) (k2 (f07Insert_ret v5 x9.Key r11 h12) (ok1 h13))))))
  ·simp at h
 ·obtain ⟨v5, k6⟩ := s
  unfold f50Keys_L1_step at h
  try dsimp only at h
  rcases itS h with ⟨c8, h⟩ | ⟨c8, h⟩
  ·obtain ⟨x9, h10, h⟩ := bnS h
   obtain ⟨r11, h12, h⟩ := bnS h
   obtain ⟨h13, h⟩ := gdS h
   simp at h
  ·obtain rfl := oR h
   exact ⟨Does.of_viewM 0 400 (cs 3 [oa, .br false]) [] (by kernel_rfl) (by kernel_rfl) (ok1 (dF c8)), by intro q; cases q⟩
def f50Keys_L14_step (b_1 : (List TC)) : ((List (List UInt8)) × Nat) → Option (((List (List UInt8)) × Nat) ⊕ (List (List UInt8)))
 | (v5, k7) =>
  if (↑k7 : Int) < (↑b_1.length : Int) then
   (b_1[k7]?).bind fun x22 =>
   (f07Insert v5 x22.Key).bind fun r24 =>
   if InR .i64 ((↑k7 : Int) + 1) then
    some (Sum.inl (r24, (k7 + 1)))
   else none
  else
   some (Sum.inr v5)
def f50Keys_L14_H (b_1 : (List TC)) : ((List (List UInt8)) × Nat) → St := fun (s : ((List (List UInt8)) × Nat)) => S 35 [(1, .lst (fl TC.enc b_1) b_1.length), (5, .lst (fl e_str s.1) s.1.length), (7, .int .i64 (↑s.2 : Int))] []
def f50Keys_L14_X (b_1 : (List TC)) : (List (List UInt8)) → AEx := fun o => (.exit 2)
def f50Keys_L14_T (b_1 : (List TC)) : (List (List UInt8)) → List (Nat × AV) := fun o => [(5, .lst (fl e_str o) o.length)]
def f50Keys_L14_B (b_1 : (List TC)) : (List (List UInt8)) → List Blk := fun o => []
def f50Keys_L14_E (b_1 : (List TC)) (q : (List (List UInt8))) : St := S 35 (f50Keys_L14_T b_1 q) (f50Keys_L14_B b_1 q)
theorem f50Keys_L14_does (b_1 : (List TC)) {s : ((List (List UInt8)) × Nat)} {r : (List (List UInt8))} (h : lp (f50Keys_L14_step b_1) s = some r) : Does Tryz.prog G0 0 (.loop (bodyAt Tryz.prog 38 [1, 1, 1, 0, 1, 0, 0])) (f50Keys_L14_H b_1 s) (f50Keys_L14_X b_1 r) (f50Keys_L14_E b_1 r) := by
 refine Does.lp (H := f50Keys_L14_H b_1) (X := f50Keys_L14_X b_1) (E := f50Keys_L14_E b_1) (fun s s2 h => ?_) (fun s r h => ?_) h
 ·obtain ⟨v5, k7⟩ := s
  unfold f50Keys_L14_step at h
  try dsimp only at h
  rcases itS h with ⟨c21, h⟩ | ⟨c21, h⟩
  ·obtain ⟨x22, h23, h⟩ := bnS h
   obtain ⟨r24, h25, h⟩ := bnS h
   obtain ⟨h26, h⟩ := gdS h
   obtain rfl := oL h
   exact Does.of_viewM 0 400 (cs 3 (oa :: bt :: (cs 3 ((.op none (.i k7)) :: oc :: (.op none (.v [.str x22.Key])) :: (.ret none [.any, .any] (.lst (fl e_str r24) r24.length) []) :: (cs 2 [ow, oc]))))) [] (by kernel_rfl) (by kernel_rfl) (k2 (dT c21) (k2 (ir h23) (k2 (fl_ne (f := TC.enc) (z := 6) (fun _ => rfl) h23) (k2 (fl_sub (f := TC.enc) (z := 7) (j := k7) (a := 0) (n := 1) (fun _ => rfl) h23 (by decide) rfl) (k2 (f07Insert_ret v5 x22.Key r24 h25) (ok1 h26))))))
  ·simp at h
 ·obtain ⟨v5, k7⟩ := s
  unfold f50Keys_L14_step at h
  try dsimp only at h
  rcases itS h with ⟨c21, h⟩ | ⟨c21, h⟩
  ·obtain ⟨x22, h23, h⟩ := bnS h
   obtain ⟨r24, h25, h⟩ := bnS h
   obtain ⟨h26, h⟩ := gdS h
   simp at h
  ·obtain rfl := oR h
   exact ⟨Does.of_viewM 0 400 (cs 3 [oa, .br false]) [] (by kernel_rfl) (by kernel_rfl) (ok1 (dF c21)), by intro q; cases q⟩
def f50Keys (a_0 : (List TC)) (b_1 : (List TC)) : Option (List (List UInt8)) :=
 (lp (f50Keys_L1_step a_0 b_1) (([] : (List (List UInt8))), (0 : Nat))).bind fun o1 =>
 (lp (f50Keys_L14_step b_1) (o1, (0 : Nat))).bind fun o14 =>
 some o14
theorem f50Keys_ret (a_0 : (List TC)) (b_1 : (List TC)) (r : (List (List UInt8))) (h : f50Keys a_0 b_1 = some r) : Ret Tryz.prog G0 38 [.lst (fl TC.enc a_0) a_0.length, .lst (fl TC.enc b_1) b_1.length] (.lst (fl e_str r) r.length) [] := by
 unfold f50Keys at h
 obtain ⟨o1, hl1, h⟩ := bnS h
 obtain ⟨o14, hl14, h⟩ := bnS h
 obtain rfl := oI h
 exact Ret.of_view 400 (cs 3 ((.tr (.nl (.t 5))) :: (.fcut 0 (.exit 0) (f50Keys_L1_T a_0 b_1 o1) [] [] [(0, .any), (1, .any), (5, .lst (fl e_str ([] : (List (List UInt8)))) (([] : (List (List UInt8))).length)), (6, jI (↑(0 : Nat) : Int))] []) :: oc :: (.fcut 0 (.exit 2) (f50Keys_L14_T b_1 o14) [] [] [(1, .any), (5, .any), (7, jI (↑(0 : Nat) : Int))] []) :: (cs 2 []))) [] (by kernel_rfl) (by kernel_rfl) (k2 (rfl : (.lst [] 0 : AV) = .lst (fl e_str ([] : (List (List UInt8)))) (([] : (List (List UInt8))).length)) (k2 (rfl : (jI 0 : AV) = jI (↑(0 : Nat) : Int)) (k2 (f50Keys_L1_does a_0 b_1 (s := (([] : (List (List UInt8))), (0 : Nat))) (r := o1) hl1) (k2 (rfl : (jI 0 : AV) = jI (↑(0 : Nat) : Int)) (ok1 (f50Keys_L14_does b_1 (s := (o1, (0 : Nat))) (r := o14) hl14))))))
def f50SameFindings_L2_step (a_0 : (List TF)) (b_1 : (List TF)) : Nat → Option (Nat ⊕ (Unit ⊕ Unit)) := fun k5 =>
 if (↑k5 : Int) < (↑a_0.length : Int) then
  (a_0[k5]?).bind fun x14 =>
  (b_1[k5]?).bind fun x16 =>
  if x14.Key = x16.Key then
   if x14.Day = x16.Day then
    if x14.Have = x16.Have then
     if x14.Want = x16.Want then
      if InR .i64 ((↑k5 : Int) + 1) then
       some (Sum.inl (k5 + 1))
      else none
     else
      some (Sum.inr (Sum.inl ()))
    else
     some (Sum.inr (Sum.inl ()))
   else
    some (Sum.inr (Sum.inl ()))
  else
   some (Sum.inr (Sum.inl ()))
 else
  some (Sum.inr (Sum.inr (())))
def f50SameFindings_L2_H (a_0 : (List TF)) (b_1 : (List TF)) : Nat → St := fun (s : Nat) => S 67 [(0, .lst (fl TF.enc a_0) a_0.length), (1, .lst (fl TF.enc b_1) b_1.length), (5, .int .i64 (↑s : Int))] []
def f50SameFindings_L2_X (a_0 : (List TF)) (b_1 : (List TF)) : (Unit ⊕ Unit) → AEx := fun q => match q with | Sum.inl o => .ret | Sum.inr (o) => (.exit 0)
def f50SameFindings_L2_T (a_0 : (List TF)) (b_1 : (List TF)) : (Unit ⊕ Unit) → List (Nat × AV) := fun q => match q with | Sum.inl o => [(4, .bool false)] | Sum.inr (o) => []
def f50SameFindings_L2_B (a_0 : (List TF)) (b_1 : (List TF)) : (Unit ⊕ Unit) → List Blk := fun q => match q with | Sum.inl o => [] | Sum.inr (o) => []
def f50SameFindings_L2_E (a_0 : (List TF)) (b_1 : (List TF)) (q : Unit ⊕ Unit) : St := S 67 (f50SameFindings_L2_T a_0 b_1 q) (f50SameFindings_L2_B a_0 b_1 q)
theorem f50SameFindings_L2_does (a_0 : (List TF)) (b_1 : (List TF)) {s : Nat} {r : Unit ⊕ Unit} (h : lp (f50SameFindings_L2_step a_0 b_1) s = some r) : Does Tryz.prog G0 0 (.loop (bodyAt Tryz.prog 15 [1, 1, 0, 1, 0, 0])) (f50SameFindings_L2_H a_0 b_1 s) (f50SameFindings_L2_X a_0 b_1 r) (f50SameFindings_L2_E a_0 b_1 r) := by
 refine Does.lp (H := f50SameFindings_L2_H a_0 b_1) (X := f50SameFindings_L2_X a_0 b_1) (E := f50SameFindings_L2_E a_0 b_1) (fun s s2 h => ?_) (fun s r h => ?_) h
 ·revert h; revert s; intro k5 h
  unfold f50SameFindings_L2_step at h
  try dsimp only at h
  rcases itS h with ⟨c13, h⟩ | ⟨c13, h⟩
  ·obtain ⟨x14, h15, h⟩ := bnS h
   obtain ⟨x16, h17, h⟩ := bnS h
   rcases itS h with ⟨c18, h⟩ | ⟨c18, h⟩
   ·rcases itS h with ⟨c19, h⟩ | ⟨c19, h⟩
    ·rcases itS h with ⟨c20, h⟩ | ⟨c20, h⟩
     ·rcases itS h with ⟨c21, h⟩ | ⟨c21, h⟩
      ·obtain ⟨h22, h⟩ := gdS h
       obtain rfl := oL h
       exact Does.of_viewM 0 400 (cs 3 (oa :: bt :: (cs 2 ((.op none (.i k5)) :: oc :: (.op none (.v [.str x14.Key])) :: (cs 2 [.op none (.i k5), oc, .op none (.v [.str x16.Key]), oa, oc, .op (some false) .c, .op (some false) .c, .op (some false) (.i k5), .op (some false) .c, .op (some false) (.v [jI x14.Day]), .op (some false) .c, .op (some false) .c, .op (some false) (.i k5), .op (some false) .c, .op (some false) (.v [jI x16.Day]), .op (some false) .a, .op none (.b false), oc, .op (some false) .c, .op (some false) .c, .op (some false) (.i k5), .op (some false) .c, .op (some false) (.v [jI x14.Have]), .op (some false) .c, .op (some false) .c, .op (some false) (.i k5), .op (some false) .c, .op (some false) (.v [jI x16.Have]), .op (some false) .a, .op none (.b false), oc, .op (some false) .c, .op (some false) .c, .op (some false) (.i k5), .op (some false) .c, .op (some false) (.v [jI x14.Want]), .op (some false) .c, .op (some false) .c, .op (some false) (.i k5), .op (some false) .c, .op (some false) (.v [jI x16.Want]), .op (some false) .a, .op none (.b false), .br false, oc, ow, oc]))))) [] (by kernel_rfl) (by kernel_rfl) (k2 (dT c13) (k2 (ir h15) (k2 (fl_ne (f := TF.enc) (z := 3) (fun _ => rfl) h15) (k2 (fl_sub (f := TF.enc) (z := 4) (j := k5) (a := 0) (n := 1) (fun _ => rfl) h15 (by decide) rfl) (k2 (ir h17) (k2 (fl_ne (f := TF.enc) (z := 3) (fun _ => rfl) h17) (k2 (fl_sub (f := TF.enc) (z := 4) (j := k5) (a := 0) (n := 1) (fun _ => rfl) h17 (by decide) rfl) (k2 (not_f (beq_t c18)) (k2 (not_f (beq_t c18)) (k2 (not_f (beq_t c18)) (k2 (ir h15) (k2 (fl_ne (f := TF.enc) (z := 3) (fun _ => rfl) h15) (k2 (not_f (beq_t c18)) (k2 (not_f (beq_t c18)) (k2 (fl_sub (f := TF.enc) (z := 4) (j := k5) (a := 1) (n := 1) (fun _ => rfl) h15 (by decide) rfl) (k2 (not_f (beq_t c18)) (k2 (not_f (beq_t c18)) (k2 (not_f (beq_t c18)) (k2 (ir h17) (k2 (fl_ne (f := TF.enc) (z := 3) (fun _ => rfl) h17) (k2 (not_f (beq_t c18)) (k2 (not_f (beq_t c18)) (k2 (fl_sub (f := TF.enc) (z := 4) (j := k5) (a := 1) (n := 1) (fun _ => rfl) h17 (by decide) rfl) (k2 (not_f (beq_t c18)) (k2 (not_f (beq_t c18)) (k2 (not_f (beq_t c19)) (k2 (not_f (beq_t c19)) (k2 (not_f (beq_t c19)) (k2 (ir h15) (k2 (fl_ne (f := TF.enc) (z := 3) (fun _ => rfl) h15) (k2 (not_f (beq_t c19)) (k2 (not_f (beq_t c19)) (k2 (fl_sub (f := TF.enc) (z := 4) (j := k5) (a := 2) (n := 1) (fun _ => rfl) h15 (by decide) rfl) (k2 (not_f (beq_t c19)) (k2 (not_f (beq_t c19)) (k2 (not_f (beq_t c19)) (k2 (ir h17) (k2 (fl_ne (f := TF.enc) (z := 3) (fun _ => rfl) h17) (k2 (not_f (beq_t c19)) (k2 (not_f (beq_t c19)) (k2 (fl_sub (f := TF.enc) (z := 4) (j := k5) (a := 2) (n := 1) (fun _ => rfl) h17 (by decide) rfl) (k2 (not_f (beq_t c19)) (k2 (not_f (beq_t c19)) (k2 (not_f (beq_t c20)) (k2 (not_f (beq_t c20)) (k2 (not_f (beq_t c20)) (k2 (ir h15) (k2 (fl_ne (f := TF.enc) (z := 3) (fun _ => rfl) h15) (k2 (not_f (beq_t c20)) (k2 (not_f (beq_t c20)) (k2 (fl_sub (f := TF.enc) (z := 4) (j := k5) (a := 3) (n := 1) (fun _ => rfl) h15 (by decide) rfl) (k2 (not_f (beq_t c20)) (k2 (not_f (beq_t c20)) (k2 (not_f (beq_t c20)) (k2 (ir h17) (k2 (fl_ne (f := TF.enc) (z := 3) (fun _ => rfl) h17) (k2 (not_f (beq_t c20)) (k2 (not_f (beq_t c20)) (k2 (fl_sub (f := TF.enc) (z := 4) (j := k5) (a := 3) (n := 1) (fun _ => rfl) h17 (by decide) rfl) (k2 (not_f (beq_t c20)) (k2 (not_f (beq_t c20)) (k2 (not_f (beq_t c21)) (ok1 h22)))))))))))))))))))))))))))))))))))))))))))))))))))))))))))))))
      ·simp at h
     ·simp at h
    ·simp at h
   ·simp at h
  ·simp at h
 ·revert h; revert s; intro k5 h
  unfold f50SameFindings_L2_step at h
  try dsimp only at h
  let f80 : List CH := (cs 3 [oa])
  rcases itS h with ⟨c13, h⟩ | ⟨c13, h⟩
  ·obtain ⟨x14, h15, h⟩ := bnS h
   obtain ⟨x16, h17, h⟩ := bnS h
   let f81 : List CH := (bt :: (cs 2 ((.op none (.i k5)) :: oc :: (.op none (.v [.str x14.Key])) :: (cs 2 [.op none (.i k5), oc, .op none (.v [.str x16.Key]), oa, oc]))))
   have g82 := k2 (dT c13) (k2 (ir h15) (k2 (fl_ne (f := TF.enc) (z := 3) (fun _ => rfl) h15) (k2 (fl_sub (f := TF.enc) (z := 4) (j := k5) (a := 0) (n := 1) (fun _ => rfl) h15 (by decide) rfl) (k2 (ir h17) (k2 (fl_ne (f := TF.enc) (z := 3) (fun _ => rfl) h17) (ok1 (fl_sub (f := TF.enc) (z := 4) (j := k5) (a := 0) (n := 1) (fun _ => rfl) h17 (by decide) rfl)))))))
   rcases itS h with ⟨c18, h⟩ | ⟨c18, h⟩
   ·let f83 : List CH := [.op (some false) .c, .op (some false) .c, .op (some false) (.i k5), .op (some false) .c, .op (some false) (.v [.int .i64 x14.Day]), .op (some false) .c, .op (some false) .c, .op (some false) (.i k5), .op (some false) .c, .op (some false) (.v [.int .i64 x16.Day]), .op (some false) .a, .op none (.b false), oc]
    have g84 := k2 (not_f (beq_t c18)) (k2 (not_f (beq_t c18)) (k2 (not_f (beq_t c18)) (k2 (ir h15) (k2 (fl_ne (f := TF.enc) (z := 3) (fun _ => rfl) h15) (k2 (not_f (beq_t c18)) (k2 (not_f (beq_t c18)) (k2 (fl_sub (f := TF.enc) (z := 4) (j := k5) (a := 1) (n := 1) (fun _ => rfl) h15 (by decide) rfl) (k2 (not_f (beq_t c18)) (k2 (not_f (beq_t c18)) (k2 (not_f (beq_t c18)) (k2 (ir h17) (k2 (fl_ne (f := TF.enc) (z := 3) (fun _ => rfl) h17) (k2 (not_f (beq_t c18)) (k2 (not_f (beq_t c18)) (k2 (fl_sub (f := TF.enc) (z := 4) (j := k5) (a := 1) (n := 1) (fun _ => rfl) h17 (by decide) rfl) (k2 (not_f (beq_t c18)) (ok1 (not_f (beq_t c18)))))))))))))))))))
    rcases itS h with ⟨c19, h⟩ | ⟨c19, h⟩
    ·let f85 : List CH := [.op (some false) .c, .op (some false) .c, .op (some false) (.i k5), .op (some false) .c, .op (some false) (.v [.int .i64 x14.Have]), .op (some false) .c, .op (some false) .c, .op (some false) (.i k5), .op (some false) .c, .op (some false) (.v [.int .i64 x16.Have]), .op (some false) .a, .op none (.b false), oc]
     have g86 := k2 (not_f (beq_t c19)) (k2 (not_f (beq_t c19)) (k2 (not_f (beq_t c19)) (k2 (ir h15) (k2 (fl_ne (f := TF.enc) (z := 3) (fun _ => rfl) h15) (k2 (not_f (beq_t c19)) (k2 (not_f (beq_t c19)) (k2 (fl_sub (f := TF.enc) (z := 4) (j := k5) (a := 2) (n := 1) (fun _ => rfl) h15 (by decide) rfl) (k2 (not_f (beq_t c19)) (k2 (not_f (beq_t c19)) (k2 (not_f (beq_t c19)) (k2 (ir h17) (k2 (fl_ne (f := TF.enc) (z := 3) (fun _ => rfl) h17) (k2 (not_f (beq_t c19)) (k2 (not_f (beq_t c19)) (k2 (fl_sub (f := TF.enc) (z := 4) (j := k5) (a := 2) (n := 1) (fun _ => rfl) h17 (by decide) rfl) (k2 (not_f (beq_t c19)) (ok1 (not_f (beq_t c19)))))))))))))))))))
     rcases itS h with ⟨c20, h⟩ | ⟨c20, h⟩
     ·rcases itS h with ⟨c21, h⟩ | ⟨c21, h⟩
      ·obtain ⟨h22, h⟩ := gdS h
       simp at h
      ·obtain rfl := oR h
       exact ⟨Does.of_viewM 0 400 (f80 ++ (f81 ++ (f83 ++ (f85 ++ [.op (some false) .c, .op (some false) .c, .op (some false) (.i k5), .op (some false) .c, .op (some false) (.v [jI x14.Want]), .op (some false) .c, .op (some false) .c, .op (some false) (.i k5), .op (some false) .c, .op (some false) (.v [jI x16.Want]), .op (some false) .a, .op none (.b false), .br true, oc])))) [] (by kernel_rfl) (by kernel_rfl) (aO g82 (aO g84 (aO g86 (k2 (not_f (beq_t c20)) (k2 (not_f (beq_t c20)) (k2 (not_f (beq_t c20)) (k2 (ir h15) (k2 (fl_ne (f := TF.enc) (z := 3) (fun _ => rfl) h15) (k2 (not_f (beq_t c20)) (k2 (not_f (beq_t c20)) (k2 (fl_sub (f := TF.enc) (z := 4) (j := k5) (a := 3) (n := 1) (fun _ => rfl) h15 (by decide) rfl) (k2 (not_f (beq_t c20)) (k2 (not_f (beq_t c20)) (k2 (not_f (beq_t c20)) (k2 (ir h17) (k2 (fl_ne (f := TF.enc) (z := 3) (fun _ => rfl) h17) (k2 (not_f (beq_t c20)) (k2 (not_f (beq_t c20)) (k2 (fl_sub (f := TF.enc) (z := 4) (j := k5) (a := 3) (n := 1) (fun _ => rfl) h17 (by decide) rfl) (k2 (not_f (beq_t c20)) (k2 (not_f (beq_t c20)) (ok1 (not_t (beq_f c21)))))))))))))))))))))))), by intro q; cases q⟩
     ·obtain rfl := oR h
      exact ⟨Does.of_viewM 0 400 (f80 ++ (f81 ++ (f83 ++ (f85 ++ [tc, tc, tc, tc, tc, tc, tc, tc, tc, tc, tc, .op none (.b true), .br true, oc])))) [] (by kernel_rfl) (by kernel_rfl) (aO g82 (aO g84 (aO g86 (k2 (not_t (beq_f c20)) (k2 (not_t (beq_f c20)) (k2 (not_t (beq_f c20)) (k2 (not_t (beq_f c20)) (k2 (not_t (beq_f c20)) (k2 (not_t (beq_f c20)) (k2 (not_t (beq_f c20)) (k2 (not_t (beq_f c20)) (k2 (not_t (beq_f c20)) (k2 (not_t (beq_f c20)) (k2 (not_t (beq_f c20)) (k2 (not_t (beq_f c20)) (ok1 (rfl : true = true))))))))))))))))), by intro q; cases q⟩
    ·obtain rfl := oR h
     exact ⟨Does.of_viewM 0 400 (f80 ++ (f81 ++ (f83 ++ (tc :: tc :: tc :: tc :: tc :: tc :: tc :: tc :: tc :: tc :: tc :: (.op none (.b true)) :: (cs 13 [.br true, oc]))))) [] (by kernel_rfl) (by kernel_rfl) (aO g82 (aO g84 (k2 (not_t (beq_f c19)) (k2 (not_t (beq_f c19)) (k2 (not_t (beq_f c19)) (k2 (not_t (beq_f c19)) (k2 (not_t (beq_f c19)) (k2 (not_t (beq_f c19)) (k2 (not_t (beq_f c19)) (k2 (not_t (beq_f c19)) (k2 (not_t (beq_f c19)) (k2 (not_t (beq_f c19)) (k2 (not_t (beq_f c19)) (k2 (not_t (beq_f c19)) (ok1 (rfl : true = true)))))))))))))))), by intro q; cases q⟩
   ·obtain rfl := oR h
    exact ⟨Does.of_viewM 0 400 (f80 ++ (f81 ++ (tc :: tc :: tc :: tc :: tc :: tc :: tc :: tc :: tc :: tc :: tc :: (.op none (.b true)) :: (cs 26 [.br true, oc])))) [] (by kernel_rfl) (by kernel_rfl) (aO g82 (k2 (not_t (beq_f c18)) (k2 (not_t (beq_f c18)) (k2 (not_t (beq_f c18)) (k2 (not_t (beq_f c18)) (k2 (not_t (beq_f c18)) (k2 (not_t (beq_f c18)) (k2 (not_t (beq_f c18)) (k2 (not_t (beq_f c18)) (k2 (not_t (beq_f c18)) (k2 (not_t (beq_f c18)) (k2 (not_t (beq_f c18)) (k2 (not_t (beq_f c18)) (ok1 (rfl : true = true))))))))))))))), by intro q; cases q⟩
  ·obtain rfl := oR h
   exact ⟨Does.of_viewM 0 400 (f80 ++ [.br false]) [] (by kernel_rfl) (by kernel_rfl) (ok1 (dF c13)), by intro q; cases q⟩
def f50SameFindings (a_0 : (List TF)) (b_1 : (List TF)) : Option Bool :=
 if (↑a_0.length : Int) = (↑b_1.length : Int) then
  (lp (f50SameFindings_L2_step a_0 b_1) (0 : Nat)).bind fun qq => match qq with
  | Sum.inl o2 =>
   some false
  | Sum.inr (o2) =>
   some true
 else
  some false
theorem f50SameFindings_ret (a_0 : (List TF)) (b_1 : (List TF)) (r : Bool) (h : f50SameFindings a_0 b_1 = some r) : Ret Tryz.prog G0 15 [.lst (fl TF.enc a_0) a_0.length, .lst (fl TF.enc b_1) b_1.length] (.bool r) [] := by
 unfold f50SameFindings at h
 let f87 : List CH := (cs 5 [oa])
 rcases itS h with ⟨c1, h⟩ | ⟨c1, h⟩
 ·obtain ⟨qq, hl2, h⟩ := bnS h
  rcases qq with o2 | o2
  ·dsimp only at h
   obtain rfl := oI h
   exact Ret.of_view 400 (f87 ++ [.br false, oc, .fcut 0 .ret [(4, .bool false)] [] [] [(0, .any), (1, .any), (5, jI (↑(0 : Nat) : Int))] []]) [] (by kernel_rfl) (by kernel_rfl) (k2 (not_f (beq_t c1)) (k2 (rfl : (jI 0 : AV) = jI (↑(0 : Nat) : Int)) (ok1 (f50SameFindings_L2_does a_0 b_1 (s := (0 : Nat)) (r := Sum.inl o2) hl2))))
  ·dsimp only at h
   obtain rfl := oI h
   exact Ret.of_view 400 (f87 ++ [.br false, oc, .fcut 0 (.exit 0) [] [] [] [(0, .any), (1, .any), (5, jI (↑(0 : Nat) : Int))] [], oc]) [] (by kernel_rfl) (by kernel_rfl) (k2 (not_f (beq_t c1)) (k2 (rfl : (jI 0 : AV) = jI (↑(0 : Nat) : Int)) (ok1 (f50SameFindings_L2_does a_0 b_1 (s := (0 : Nat)) (r := Sum.inr (o2)) hl2))))
 ·obtain rfl := oI h
  exact Ret.of_view 400 (f87 ++ [.br true, oc]) [] (by kernel_rfl) (by kernel_rfl) (ok1 (not_t (beq_f c1)))
def w5few_L32_step (l_0 : (List TC)) (k3 : Nat) : Nat → Option (Nat ⊕ (Unit ⊕ Unit)) := fun k4 =>
 (l_0[k3]?).bind fun x40 =>
 if (↑k4 : Int) < (↑x40.Lines.length : Int) then
  (x40.Lines[k4]?).bind fun x43 =>
  if (↑x43.Text.length : Int) > (80 : Int) then
   some (Sum.inr (Sum.inl ()))
  else
   if InR .i64 ((↑k4 : Int) + 1) then
    some (Sum.inl (k4 + 1))
   else none
 else
  some (Sum.inr (Sum.inr (())))
def w5few_L32_H (l_0 : (List TC)) (k3 : Nat) : Nat → St := fun (s : Nat) => S 69 [(0, .lst (fl TC.enc l_0) l_0.length), (3, .int .i64 (↑k3 : Int)), (4, .int .i64 (↑s : Int))] []
def w5few_L32_X (l_0 : (List TC)) (k3 : Nat) : (Unit ⊕ Unit) → AEx := fun q => match q with | Sum.inl o => .ret | Sum.inr (o) => (.exit 2)
def w5few_L32_T (l_0 : (List TC)) (k3 : Nat) : (Unit ⊕ Unit) → List (Nat × AV) := fun q => match q with | Sum.inl o => [(2, .bool false)] | Sum.inr (o) => [(0, .lst (fl TC.enc l_0) l_0.length), (3, .int .i64 (↑k3 : Int))]
def w5few_L32_B (l_0 : (List TC)) (k3 : Nat) : (Unit ⊕ Unit) → List Blk := fun q => match q with | Sum.inl o => [] | Sum.inr (o) => []
def w5few_L32_E (l_0 : (List TC)) (k3 : Nat) (q : Unit ⊕ Unit) : St := S 69 (w5few_L32_T l_0 k3 q) (w5few_L32_B l_0 k3 q)
theorem w5few_L32_does (l_0 : (List TC)) (k3 : Nat) {s : Nat} {r : Unit ⊕ Unit} (h : lp (w5few_L32_step l_0 k3) s = some r) : Does Tryz.prog G0 0 (.loop (bodyAt Tryz.prog 10 [1, 0, 1, 0, 0, 1, 0, 0, 1, 1, 0, 0])) (w5few_L32_H l_0 k3 s) (w5few_L32_X l_0 k3 r) (w5few_L32_E l_0 k3 r) := by
 refine Does.lp (H := w5few_L32_H l_0 k3) (X := w5few_L32_X l_0 k3) (E := w5few_L32_E l_0 k3) (fun s s2 h => ?_) (fun s r h => ?_) h
 ·revert h; revert s; intro k4 h
  unfold w5few_L32_step at h
  try dsimp only at h
  obtain ⟨x40, h41, h⟩ := bnS h
  rcases itS h with ⟨c42, h⟩ | ⟨c42, h⟩
  ·obtain ⟨x43, h44, h⟩ := bnS h
   rcases itS h with ⟨c45, h⟩ | ⟨c45, h⟩
   ·simp at h
   ·obtain ⟨h46, h⟩ := gdS h
    obtain rfl := oL h
    exact Does.of_viewM 0 400 (cs 3 ((.op none (.i k3)) :: oc :: (.op none (.v [.lst (fl TL.enc x40.Lines) x40.Lines.length])) :: oc :: oa :: bt :: (cs 2 [.op none (.i k3), oc, .op none (.v [.lst (fl TL.enc x40.Lines) x40.Lines.length]), oc, .op none (.i k4), oc, .op none (.v [.str x43.Text]), oc, oa, .br false, oc, ow, oc]))) [] (by kernel_rfl) (by kernel_rfl) (k2 (ir h41) (k2 (fl_ne (f := TC.enc) (z := 6) (fun _ => rfl) h41) (k2 (fl_sub (f := TC.enc) (z := 7) (j := k3) (a := 5) (n := 1) (fun _ => rfl) h41 (by decide) rfl) (k2 (dT c42) (k2 (ir h41) (k2 (fl_ne (f := TC.enc) (z := 6) (fun _ => rfl) h41) (k2 (fl_sub (f := TC.enc) (z := 7) (j := k3) (a := 5) (n := 1) (fun _ => rfl) h41 (by decide) rfl) (k2 (ir h44) (k2 (fl_ne (f := TL.enc) (z := 1) (fun _ => rfl) h44) (k2 (fl_sub (f := TL.enc) (z := 2) (j := k4) (a := 0) (n := 1) (fun _ => rfl) h44 (by decide) rfl) (k2 (dF c45) (ok1 h46))))))))))))
  ·simp at h
 ·revert h; revert s; intro k4 h
  unfold w5few_L32_step at h
  try dsimp only at h
  obtain ⟨x40, h41, h⟩ := bnS h
  let f101 : List CH := (cs 3 [.op none (.i k3), oc, .op none (.v [.lst (fl TL.enc x40.Lines) x40.Lines.length]), oc, oa])
  have g102 := k2 (ir h41) (k2 (fl_ne (f := TC.enc) (z := 6) (fun _ => rfl) h41) (ok1 (fl_sub (f := TC.enc) (z := 7) (j := k3) (a := 5) (n := 1) (fun _ => rfl) h41 (by decide) rfl)))
  rcases itS h with ⟨c42, h⟩ | ⟨c42, h⟩
  ·obtain ⟨x43, h44, h⟩ := bnS h
   rcases itS h with ⟨c45, h⟩ | ⟨c45, h⟩
   ·obtain rfl := oR h
    exact ⟨Does.of_viewM 0 400 (f101 ++ (bt :: (cs 2 [.op none (.i k3), oc, .op none (.v [.lst (fl TL.enc x40.Lines) x40.Lines.length]), oc, .op none (.i k4), oc, .op none (.v [.str x43.Text]), oc, oa, .br true, oc]))) [] (by kernel_rfl) (by kernel_rfl) (aO g102 (k2 (dT c42) (k2 (ir h41) (k2 (fl_ne (f := TC.enc) (z := 6) (fun _ => rfl) h41) (k2 (fl_sub (f := TC.enc) (z := 7) (j := k3) (a := 5) (n := 1) (fun _ => rfl) h41 (by decide) rfl) (k2 (ir h44) (k2 (fl_ne (f := TL.enc) (z := 1) (fun _ => rfl) h44) (k2 (fl_sub (f := TL.enc) (z := 2) (j := k4) (a := 0) (n := 1) (fun _ => rfl) h44 (by decide) rfl) (ok1 (dT c45)))))))))), by intro q; cases q⟩
   ·obtain ⟨h46, h⟩ := gdS h
    simp at h
  ·obtain rfl := oR h
   exact ⟨Does.of_viewM 0 400 (f101 ++ [.br false]) [] (by kernel_rfl) (by kernel_rfl) (aO g102 (ok1 (dF c42))), by intro q; cases q⟩
def w5few_L1_step (l_0 : (List TC)) : Nat → Option (Nat ⊕ (Unit ⊕ Unit)) := fun k3 =>
 if (↑k3 : Int) < (↑l_0.length : Int) then
  (l_0[k3]?).bind fun x26 =>
  if (↑x26.Key.length : Int) > (80 : Int) then
   some (Sum.inr (Sum.inl ()))
  else
   if (↑x26.Vehicle.length : Int) > (80 : Int) then
    some (Sum.inr (Sum.inl ()))
   else
    if (↑x26.System.length : Int) > (80 : Int) then
     some (Sum.inr (Sum.inl ()))
    else
     if (↑x26.Lines.length : Int) > (8 : Int) then
      some (Sum.inr (Sum.inl ()))
     else
      (lp (w5few_L32_step l_0 k3) (0 : Nat)).bind fun qq => match qq with
      | Sum.inl o32 =>
       some (Sum.inr (Sum.inl ()))
      | Sum.inr (o32) =>
       if InR .i64 ((↑k3 : Int) + 1) then
        some (Sum.inl (k3 + 1))
       else none
 else
  some (Sum.inr (Sum.inr (())))
def w5few_L1_H (l_0 : (List TC)) : Nat → St := fun (s : Nat) => S 69 [(0, .lst (fl TC.enc l_0) l_0.length), (3, .int .i64 (↑s : Int))] []
def w5few_L1_X (l_0 : (List TC)) : (Unit ⊕ Unit) → AEx := fun q => match q with | Sum.inl o => .ret | Sum.inr (o) => (.exit 0)
def w5few_L1_T (l_0 : (List TC)) : (Unit ⊕ Unit) → List (Nat × AV) := fun q => match q with | Sum.inl o => [(2, .bool false)] | Sum.inr (o) => [(0, .lst (fl TC.enc l_0) l_0.length)]
def w5few_L1_B (l_0 : (List TC)) : (Unit ⊕ Unit) → List Blk := fun q => match q with | Sum.inl o => [] | Sum.inr (o) => []
def w5few_L1_E (l_0 : (List TC)) (q : Unit ⊕ Unit) : St := S 69 (w5few_L1_T l_0 q) (w5few_L1_B l_0 q)
theorem w5few_L1_does (l_0 : (List TC)) {s : Nat} {r : Unit ⊕ Unit} (h : lp (w5few_L1_step l_0) s = some r) : Does Tryz.prog G0 0 (.loop (bodyAt Tryz.prog 10 [1, 0, 1, 0, 0])) (w5few_L1_H l_0 s) (w5few_L1_X l_0 r) (w5few_L1_E l_0 r) := by
 refine Does.lp (H := w5few_L1_H l_0) (X := w5few_L1_X l_0) (E := w5few_L1_E l_0) (fun s s2 h => ?_) (fun s r h => ?_) h
 ·revert h; revert s; intro k3 h
  unfold w5few_L1_step at h
  try dsimp only at h
  rcases itS h with ⟨c25, h⟩ | ⟨c25, h⟩
  ·obtain ⟨x26, h27, h⟩ := bnS h
   rcases itS h with ⟨c28, h⟩ | ⟨c28, h⟩
   ·simp at h
   ·rcases itS h with ⟨c29, h⟩ | ⟨c29, h⟩
    ·simp at h
    ·rcases itS h with ⟨c30, h⟩ | ⟨c30, h⟩
     ·simp at h
     ·rcases itS h with ⟨c31, h⟩ | ⟨c31, h⟩
      ·simp at h
      ·obtain ⟨qq, hl32, h⟩ := bnS h
       rcases qq with o32 | o32
       ·dsimp only at h
        simp at h
       ·dsimp only at h
        obtain ⟨h47, h⟩ := gdS h
        obtain rfl := oL h
        exact Does.of_viewM 0 400 (cs 3 (oa :: bt :: (cs 2 ((.op none (.i k3)) :: oc :: (.op none (.v [.str x26.Key])) :: oc :: oa :: oc :: oF :: oc :: (.op none (.i k3)) :: oc :: (.op none (.v [.str x26.Vehicle])) :: oc :: oa :: (cs 2 (oF :: oc :: (.op none (.i k3)) :: oc :: (.op none (.v [.str x26.System])) :: oc :: oa :: (cs 2 [.op (some false) .c, oc, .op none (.i k3), oc, .op none (.v [.lst (fl TL.enc x26.Lines) x26.Lines.length]), oc, oa, oc, .br false, oc, .fcut 0 (.exit 2) (w5few_L32_T l_0 k3 (Sum.inr (o32))) [] [] [(0, .any), (3, .any), (4, jI (↑(0 : Nat) : Int))] [], oc, ow, oc]))))))) [] (by kernel_rfl) (by kernel_rfl) (k2 (dT c25) (k2 (ir h27) (k2 (fl_ne (f := TC.enc) (z := 6) (fun _ => rfl) h27) (k2 (fl_sub (f := TC.enc) (z := 7) (j := k3) (a := 0) (n := 1) (fun _ => rfl) h27 (by decide) rfl) (k2 (dF c28) (k2 (ir h27) (k2 (fl_ne (f := TC.enc) (z := 6) (fun _ => rfl) h27) (k2 (fl_sub (f := TC.enc) (z := 7) (j := k3) (a := 1) (n := 1) (fun _ => rfl) h27 (by decide) rfl) (k2 (dF c29) (k2 (ir h27) (k2 (fl_ne (f := TC.enc) (z := 6) (fun _ => rfl) h27) (k2 (fl_sub (f := TC.enc) (z := 7) (j := k3) (a := 2) (n := 1) (fun _ => rfl) h27 (by decide) rfl) (k2 (dF c30) (k2 (ir h27) (k2 (fl_ne (f := TC.enc) (z := 6) (fun _ => rfl) h27) (k2 (fl_sub (f := TC.enc) (z := 7) (j := k3) (a := 5) (n := 1) (fun _ => rfl) h27 (by decide) rfl) (k2 (dF c31) (k2 (rfl : (jI 0 : AV) = jI (↑(0 : Nat) : Int)) (k2 (w5few_L32_does l_0 k3 (s := (0 : Nat)) (r := Sum.inr (o32)) hl32) (ok1 h47))))))))))))))))))))
  ·simp at h
 ·revert h; revert s; intro k3 h
  unfold w5few_L1_step at h
  try dsimp only at h
  let f103 : List CH := (cs 3 [oa])
  rcases itS h with ⟨c25, h⟩ | ⟨c25, h⟩
  ·obtain ⟨x26, h27, h⟩ := bnS h
   let f104 : List CH := (bt :: (cs 2 [.op none (.i k3), oc, .op none (.v [.str x26.Key]), oc, oa, oc]))
   have g105 := k2 (dT c25) (k2 (ir h27) (k2 (fl_ne (f := TC.enc) (z := 6) (fun _ => rfl) h27) (ok1 (fl_sub (f := TC.enc) (z := 7) (j := k3) (a := 0) (n := 1) (fun _ => rfl) h27 (by decide) rfl))))
   rcases itS h with ⟨c28, h⟩ | ⟨c28, h⟩
   ·obtain rfl := oR h
    exact ⟨Does.of_viewM 0 400 (f103 ++ (f104 ++ (tc :: (cs 25 [.br true, oc])))) [] (by kernel_rfl) (by kernel_rfl) (aO g105 (k2 (dT c28) (ok1 (rfl : true = true)))), by intro q; cases q⟩
   ·let f106 : List CH := (oF :: oc :: (.op none (.i k3)) :: oc :: (.op none (.v [.str x26.Vehicle])) :: oc :: oa :: (cs 2 []))
    have g107 := k2 (dF c28) (k2 (ir h27) (k2 (fl_ne (f := TC.enc) (z := 6) (fun _ => rfl) h27) (ok1 (fl_sub (f := TC.enc) (z := 7) (j := k3) (a := 1) (n := 1) (fun _ => rfl) h27 (by decide) rfl))))
    rcases itS h with ⟨c29, h⟩ | ⟨c29, h⟩
    ·obtain rfl := oR h
     exact ⟨Does.of_viewM 0 400 (f103 ++ (f104 ++ (f106 ++ (tc :: (cs 16 [.br true, oc]))))) [] (by kernel_rfl) (by kernel_rfl) (aO g105 (aO g107 (k2 (dT c29) (ok1 (rfl : true = true))))), by intro q; cases q⟩
    ·let f108 : List CH := (oF :: oc :: (.op none (.i k3)) :: oc :: (.op none (.v [.str x26.System])) :: oc :: oa :: (cs 2 []))
     have g109 := k2 (dF c29) (k2 (ir h27) (k2 (fl_ne (f := TC.enc) (z := 6) (fun _ => rfl) h27) (ok1 (fl_sub (f := TC.enc) (z := 7) (j := k3) (a := 2) (n := 1) (fun _ => rfl) h27 (by decide) rfl))))
     rcases itS h with ⟨c30, h⟩ | ⟨c30, h⟩
     ·obtain rfl := oR h
      exact ⟨Does.of_viewM 0 400 (f103 ++ (f104 ++ (f106 ++ (f108 ++ (tc :: (cs 7 [.br true, oc])))))) [] (by kernel_rfl) (by kernel_rfl) (aO g105 (aO g107 (aO g109 (k2 (dT c30) (ok1 (rfl : true = true)))))), by intro q; cases q⟩
     ·let f110 : List CH := [.op (some false) .c, oc, .op none (.i k3), oc, .op none (.v [.lst (fl TL.enc x26.Lines) x26.Lines.length]), oc, oa, oc]
      have g111 := k2 (dF c30) (k2 (ir h27) (k2 (fl_ne (f := TC.enc) (z := 6) (fun _ => rfl) h27) (ok1 (fl_sub (f := TC.enc) (z := 7) (j := k3) (a := 5) (n := 1) (fun _ => rfl) h27 (by decide) rfl))))
      rcases itS h with ⟨c31, h⟩ | ⟨c31, h⟩
      ·obtain rfl := oR h
       exact ⟨Does.of_viewM 0 400 (f103 ++ (f104 ++ (f106 ++ (f108 ++ (f110 ++ [.br true, oc]))))) [] (by kernel_rfl) (by kernel_rfl) (aO g105 (aO g107 (aO g109 (aO g111 (ok1 (dT c31)))))), by intro q; cases q⟩
      ·obtain ⟨qq, hl32, h⟩ := bnS h
       rcases qq with o32 | o32
       ·dsimp only at h
        obtain rfl := oR h
        exact ⟨Does.of_viewM 0 400 (f103 ++ (f104 ++ (f106 ++ (f108 ++ (f110 ++ [.br false, oc, .fcut 0 .ret [(2, .bool false)] [] [] [(0, .any), (3, .any), (4, jI (↑(0 : Nat) : Int))] []]))))) [] (by kernel_rfl) (by kernel_rfl) (aO g105 (aO g107 (aO g109 (aO g111 (k2 (dF c31) (k2 (rfl : (jI 0 : AV) = jI (↑(0 : Nat) : Int)) (ok1 (w5few_L32_does l_0 k3 (s := (0 : Nat)) (r := Sum.inl o32) hl32)))))))), by intro q; cases q⟩
       ·dsimp only at h
        obtain ⟨h47, h⟩ := gdS h
        simp at h
  ·obtain rfl := oR h
   exact ⟨Does.of_viewM 0 400 (f103 ++ [.br false]) [] (by kernel_rfl) (by kernel_rfl) (ok1 (dF c25)), by intro q; cases q⟩
def w5few (l_0 : (List TC)) : Option Bool :=
 (lp (w5few_L1_step l_0) (0 : Nat)).bind fun qq => match qq with
 | Sum.inl o1 =>
  some false
 | Sum.inr (o1) =>
  some (decide ((↑l_0.length : Int) ≤ (20 : Int)))
theorem w5few_ret (l_0 : (List TC)) (r : Bool) (h : w5few l_0 = some r) : Ret Tryz.prog G0 10 [.lst (fl TC.enc l_0) l_0.length] (.bool r) [] := by
 unfold w5few at h
 obtain ⟨qq, hl1, h⟩ := bnS h
 rcases qq with o1 | o1
 ·dsimp only at h
  obtain rfl := oI h
  exact Ret.of_view 400 (cs 2 [.fcut 0 .ret [(2, .bool false)] [] [] [(0, .any), (3, jI (↑(0 : Nat) : Int))] []]) [] (by kernel_rfl) (by kernel_rfl) (k2 (rfl : (jI 0 : AV) = jI (↑(0 : Nat) : Int)) (ok1 (w5few_L1_does l_0 (s := (0 : Nat)) (r := Sum.inl o1) hl1)))
 ·dsimp only at h
  obtain rfl := oI h
  exact Ret.of_view 400 (cs 2 ((.fcut 0 (.exit 0) (w5few_L1_T l_0 (Sum.inr (o1))) [] [] [(0, .any), (3, jI (↑(0 : Nat) : Int))] []) :: (cs 2 [oa, oc]))) [] (by kernel_rfl) (by kernel_rfl) (k2 (rfl : (jI 0 : AV) = jI (↑(0 : Nat) : Int)) (ok1 (w5few_L1_does l_0 (s := (0 : Nat)) (r := Sum.inr (o1)) hl1)))
end
end Go.Proofs.YtpadimnchmghpaaGreatDoor.Av
