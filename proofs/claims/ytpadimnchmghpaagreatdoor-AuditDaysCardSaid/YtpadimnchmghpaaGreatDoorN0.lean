import Derived.Test.YtpadimnchmghpaaGreatDoorM1
open Prod (fst)
open Int (tdiv tmod)
set_option maxHeartbeats 4000000
set_option maxRecDepth 100000
set_option linter.unusedVariables false
set_option linter.unusedSimpArgs false
namespace Go.Proofs.YtpadimnchmghpaaGreatDoor.Av
noncomputable section
open Go Go.Proofs
def cDPutInt_L8_step  : (Int × (List UInt8)) → Option ((Int × (List UInt8)) ⊕ (Int × (List UInt8)))
 | (v5, b1) =>
  if v5 ≥ (128 : Int) then
   if InR .u8 (tmod v5 128) then
    if InR .u8 ((tmod v5 128) + 128) then
     if b1.length + 1 ≤ 4294967296 then
      if InR .u64 (tdiv v5 128) then
       some (Sum.inl ((tdiv v5 128), (b1 ++ [(UInt8.ofNat (Int.toNat ((tmod v5 128) + 128)))])))
      else none
     else none
    else none
   else none
  else
   some (Sum.inr (v5, b1))
def cDPutInt_L8_H  : (Int × (List UInt8)) → St := fun (s : (Int × (List UInt8))) => S 37 [(5, .int .u64 s.1), (6, .vec 0 s.2.length 1)] [(bV (u8s s.2) 5)]
def cDPutInt_L8_X  : (Int × (List UInt8)) → AEx := fun o => (.exit 0)
def cDPutInt_L8_T  : (Int × (List UInt8)) → List (Nat × AV) := fun o => [(5, .int .u64 o.1), (6, .vec 0 o.2.length 1)]
def cDPutInt_L8_B  : (Int × (List UInt8)) → List Blk := fun o => [(bV (u8s o.2) 5)]
def cDPutInt_L8_E  (q : (Int × (List UInt8))) : St := S 37 (cDPutInt_L8_T  q) (cDPutInt_L8_B  q)
theorem cDPutInt_L8_does  {s : (Int × (List UInt8))} {r : (Int × (List UInt8))} (h : lp (cDPutInt_L8_step ) s = some r) : Does Tryz.prog G0 0 (.loop (bodyAt Tryz.prog 55 [1, 1, 1, 1, 0, 0, 0])) (cDPutInt_L8_H  s) (cDPutInt_L8_X  r) (cDPutInt_L8_E  r) := by
 refine Does.lp (H := cDPutInt_L8_H ) (X := cDPutInt_L8_X ) (E := cDPutInt_L8_E ) (fun s s2 h => ?_) (fun s r h => ?_) h
 ·obtain ⟨v5, b1⟩ := s
  unfold cDPutInt_L8_step at h
  try dsimp only at h
  rcases itS h with ⟨c14, h⟩ | ⟨c14, h⟩
  ·obtain ⟨h15, h⟩ := gdS h
   obtain ⟨h16, h⟩ := gdS h
   obtain ⟨h17, h⟩ := gdS h
   obtain ⟨h18, h⟩ := gdS h
   obtain rfl := oL h
   exact Does.of_viewM 0 400 (oc :: oa :: bt :: (cs 2 (oa :: ow :: ow :: oc :: (.op none (.ap 4)) :: (.tr (.eqc 2 (u8s (b1 ++ [(UInt8.ofNat (Int.toNat ((tmod v5 128) + 128)))])))) :: (.tr (.eqt (.t 29) (.vec 2 ((b1 ++ [(UInt8.ofNat (Int.toNat ((tmod v5 128) + 128)))]).length) 1))) :: (cs 2 [ow, oc])))) [2] (by kernel_rfl) (by kernel_rfl) (k2 (dT c14) (k2 ((by decide) : 128 ≠ (0 : Int)) (k2 h15 (k2 h16 (k2 ((nB rfl) : 0 + 1 ≤ List.length ([.int .u8 ((tmod v5 128) + 128)] : List AV)) (k2 (u8s_length : List.length ((u8s b1) : List AV) = b1.length) (k2 (rfl : List.all ([.int .u8 ((tmod v5 128) + 128)] : List AV) AV.one = true) (k2 h17 (k2 ((u8s_snoc (congrArg (fun q => [q]) (u8_of h16))) : (u8s b1) ++ [.int .u8 ((tmod v5 128) + 128)] = (u8s (b1 ++ [(UInt8.ofNat (Int.toNat ((tmod v5 128) + 128)))]))) (k2 ((by simp <;> omega) : (.vec 2 (b1.length + 1) 1 : AV) = .vec 2 ((b1 ++ [(UInt8.ofNat (Int.toNat ((tmod v5 128) + 128)))]).length) 1) (k2 ((by decide) : 128 ≠ (0 : Int)) (ok1 h18))))))))))))
  ·simp at h
 ·obtain ⟨v5, b1⟩ := s
  unfold cDPutInt_L8_step at h
  try dsimp only at h
  rcases itS h with ⟨c14, h⟩ | ⟨c14, h⟩
  ·obtain ⟨h15, h⟩ := gdS h
   obtain ⟨h16, h⟩ := gdS h
   obtain ⟨h17, h⟩ := gdS h
   obtain ⟨h18, h⟩ := gdS h
   simp at h
  ·obtain rfl := oR h
   exact ⟨Does.of_viewM 0 400 [oc, oa, .br false] [0] (by kernel_rfl) (by kernel_rfl) (ok1 (dF c14)), by intro q; cases q⟩
def cDPutInt (b_0 : (List UInt8)) (n_1 : Int) : Option (List UInt8) :=
 if n_1 < (0 : Int) then
  if InR .i64 (n_1 + 1) then
   if InR .i64 (0 - (n_1 + 1)) then
    if InR .u64 (0 - (n_1 + 1)) then
     if InR .u64 ((0 - (n_1 + 1)) * 2) then
      if InR .u64 (((0 - (n_1 + 1)) * 2) + 1) then
       if 0 + b_0.length ≤ 4294967296 then
        (lp (cDPutInt_L8_step) ((((0 - (n_1 + 1)) * 2) + 1), b_0)).bind fun o8 =>
        if InR .u8 (o8.1) then
         if o8.2.length + 1 ≤ 4294967296 then
          some (o8.2 ++ [(UInt8.ofNat o8.1.toNat)])
         else none
        else none
       else none
      else none
     else none
    else none
   else none
  else none
 else
  if 0 + b_0.length ≤ 4294967296 then
   (lp (cDPutInt_L8_step) ((IntKind.wrap .u64 ((IntKind.wrap .u64 (n_1)) * 2)), b_0)).bind fun o22 =>
   if InR .u8 (o22.1) then
    if o22.2.length + 1 ≤ 4294967296 then
     some (o22.2 ++ [(UInt8.ofNat o22.1.toNat)])
    else none
   else none
  else none
theorem cDPutInt_ret (b_0 : (List UInt8)) (n_1 : Int) (r : (List UInt8)) (h : cDPutInt b_0 n_1 = some r) : Ret Tryz.prog G0 55 [.lst (u8s b_0) b_0.length, .int .i64 n_1] (.vec 0 r.length 1) [(bV (u8s r) 5)] := by
 unfold cDPutInt at h
 let f1 : List CH := (cs 2 (oa :: oa :: (cs 2 [oa])))
 rcases itS h with ⟨c1, h⟩ | ⟨c1, h⟩
 ·obtain ⟨h2, h⟩ := gdS h
  obtain ⟨h3, h⟩ := gdS h
  obtain ⟨h4, h⟩ := gdS h
  obtain ⟨h5, h⟩ := gdS h
  obtain ⟨h6, h⟩ := gdS h
  obtain ⟨h7, h⟩ := gdS h
  obtain ⟨o8, hl8, h⟩ := bnS h
  obtain ⟨h19, h⟩ := gdS h
  obtain ⟨h20, h⟩ := gdS h
  obtain rfl := oI h
  exact Ret.of_view 400 (f1 ++ (bt :: oc :: ow :: ow :: ow :: ow :: ow :: (cs 3 ((.tr (.wid (.t 18))) :: (.op none (.ap 4)) :: (.tr (.eqc 1 (u8s b_0))) :: (.tr (.eqt (.t 20) (.vec 1 b_0.length 1))) :: oc :: (.fcut 0 (.exit 0) (cDPutInt_L8_T o8) [(bV (u8s o8.2) 5)] [1] [(5, .any), (6, .vec 0 b_0.length 1)] [bS]) :: (cs 2 [ow, oc, .op none (.ap 4), .tr (.eqc 4 (u8s (o8.2 ++ [(UInt8.ofNat o8.1.toNat)]))), .tr (.eqt (.t 36) (.vec 4 ((o8.2 ++ [(UInt8.ofNat o8.1.toNat)]).length) 1)), oc]))))) [4] (by kernel_rfl) (by kernel_rfl) (k2 (dT c1) (k2 h2 (k2 h3 (k2 h4 (k2 h5 (k2 h6 (k2 ((Nat.le_refl _) : 0 ≤ 0) (k2 (u8s_length : List.length ((u8s b_0) : List AV) = b_0.length) (k2 (rfl : List.length ([] : List AV) = 0) (k2 ((u8s_one _) : List.all ((u8s b_0) : List AV) AV.one = true) (k2 h7 (k2 (rfl : [] ++ (u8s b_0) = (u8s b_0)) (k2 ((by simp <;> omega) : (.vec 1 (0 + b_0.length) 1 : AV) = .vec 1 b_0.length 1) (k2 ((by first | rfl | simp only [List.length_replicate, List.length_set]) : (.vec 1 b_0.length 1 : AV) = .vec 1 b_0.length 1) (k2 (cDPutInt_L8_does (s := ((((0 - (n_1 + 1)) * 2) + 1), b_0)) (r := o8) hl8) (k2 h19 (k2 ((nB rfl) : 0 + 1 ≤ List.length ([.int .u8 o8.1] : List AV)) (k2 (u8s_length : List.length ((u8s o8.2) : List AV) = o8.2.length) (k2 (rfl : List.all ([.int .u8 o8.1] : List AV) AV.one = true) (k2 h20 (k2 ((u8s_snoc (congrArg (fun q => [q]) (u8_of h19))) : (u8s o8.2) ++ [.int .u8 o8.1] = (u8s (o8.2 ++ [(UInt8.ofNat o8.1.toNat)]))) (ok1 ((by simp <;> omega) : (.vec 4 (o8.2.length + 1) 1 : AV) = .vec 4 ((o8.2 ++ [(UInt8.ofNat o8.1.toNat)]).length) 1)))))))))))))))))))))))
 ·obtain ⟨h21, h⟩ := gdS h
  obtain ⟨o22, hl22, h⟩ := bnS h
  obtain ⟨h33, h⟩ := gdS h
  obtain ⟨h34, h⟩ := gdS h
  obtain rfl := oI h
  exact Ret.of_view 400 (f1 ++ (bf :: (cs 2 ((.tr (.wid (.t 18))) :: (.op none (.ap 4)) :: (.tr (.eqc 1 (u8s b_0))) :: (.tr (.eqt (.t 20) (.vec 1 b_0.length 1))) :: oc :: (.fcut 0 (.exit 0) (cDPutInt_L8_T o22) [(bV (u8s o22.2) 5)] [1] [(5, .any), (6, .vec 0 b_0.length 1)] [bS]) :: (cs 2 [ow, oc, .op none (.ap 4), .tr (.eqc 4 (u8s (o22.2 ++ [(UInt8.ofNat o22.1.toNat)]))), .tr (.eqt (.t 36) (.vec 4 ((o22.2 ++ [(UInt8.ofNat o22.1.toNat)]).length) 1)), oc]))))) [4] (by kernel_rfl) (by kernel_rfl) (k2 (dF c1) (k2 ((Nat.le_refl _) : 0 ≤ 0) (k2 (u8s_length : List.length ((u8s b_0) : List AV) = b_0.length) (k2 (rfl : List.length ([] : List AV) = 0) (k2 ((u8s_one _) : List.all ((u8s b_0) : List AV) AV.one = true) (k2 h21 (k2 (rfl : [] ++ (u8s b_0) = (u8s b_0)) (k2 ((by simp <;> omega) : (.vec 1 (0 + b_0.length) 1 : AV) = .vec 1 b_0.length 1) (k2 ((by first | rfl | simp only [List.length_replicate, List.length_set]) : (.vec 1 b_0.length 1 : AV) = .vec 1 b_0.length 1) (k2 (cDPutInt_L8_does (s := ((IntKind.wrap .u64 ((IntKind.wrap .u64 (n_1)) * 2)), b_0)) (r := o22) hl22) (k2 h33 (k2 ((nB rfl) : 0 + 1 ≤ List.length ([.int .u8 o22.1] : List AV)) (k2 (u8s_length : List.length ((u8s o22.2) : List AV) = o22.2.length) (k2 (rfl : List.all ([.int .u8 o22.1] : List AV) AV.one = true) (k2 h34 (k2 ((u8s_snoc (congrArg (fun q => [q]) (u8_of h33))) : (u8s o22.2) ++ [.int .u8 o22.1] = (u8s (o22.2 ++ [(UInt8.ofNat o22.1.toNat)]))) (ok1 ((by simp <;> omega) : (.vec 4 (o22.2.length + 1) 1 : AV) = .vec 4 ((o22.2 ++ [(UInt8.ofNat o22.1.toNat)]).length) 1))))))))))))))))))
def cDPutText (b_0 : (List UInt8)) (s_1 : (List UInt8)) : Option (List UInt8) :=
 (cDPutInt b_0 (↑s_1.length : Int)).bind fun r1 =>
 if r1.length + s_1.length ≤ 4294967296 then
  some (r1 ++ s_1)
 else none
theorem cDPutText_ret (b_0 : (List UInt8)) (s_1 : (List UInt8)) (r : (List UInt8)) (h : cDPutText b_0 s_1 = some r) : Ret Tryz.prog G0 54 [.lst (u8s b_0) b_0.length, .str s_1] (.vec 0 r.length 1) [(bV (u8s r) 5)] := by
 unfold cDPutText at h
 obtain ⟨r1, h2, h⟩ := bnS h
 obtain ⟨h3, h⟩ := gdS h
 obtain rfl := oI h
 exact Ret.of_view 400 (cs 4 [.ret none [.any, .any] (.vec 0 r1.length 1) [(bV (u8s r1) 5)], oc, .op none (.ap 4), .tr (.eqc 1 (u8s (r1 ++ s_1))), .tr (.eqt (.t 10) (.vec 1 ((r1 ++ s_1).length) 1)), oc]) [1] (by kernel_rfl) (by kernel_rfl) (k2 (cDPutInt_ret b_0 (↑s_1.length : Int) r1 h2) (k2 (u8s_length : List.length ((u8s r1) : List AV) = r1.length) (k2 ((u8s_one _) : List.all ((u8s s_1) : List AV) AV.one = true) (k2 h3 (k2 (u8s_app.symm : (u8s r1) ++ (u8s s_1) = (u8s (r1 ++ s_1))) (ok1 ((by simp <;> omega) : (.vec 1 (r1.length + s_1.length) 1 : AV) = .vec 1 ((r1 ++ s_1).length) 1)))))))
def dGHash_L1_step (b_0 : (List UInt8)) : (Int × Nat) → Option ((Int × Nat) ⊕ Int)
 | (v3, k8) =>
  if (↑k8 : Int) < (↑b_0.length : Int) then
   (b_0[k8]?).bind fun x10 =>
   if InR .u64 ((x10.toNat : Int)) then
    (some (IntKind.wrap .u64 ((BitVec.ofInt (IntKind.bits .u64) v3 ^^^ BitVec.ofInt (IntKind.bits .u64) (x10.toNat : Int)).toNat : Int))).bind fun y13 =>
    if InR .i64 ((↑k8 : Int) + 1) then
     some (Sum.inl ((IntKind.wrap .u64 (y13 * 1099511628211)), (k8 + 1)))
    else none
   else none
  else
   some (Sum.inr v3)
def dGHash_L1_H (b_0 : (List UInt8)) : (Int × Nat) → St := fun (s : (Int × Nat)) => S 19 [(3, .int .u64 s.1), (6, .lst (u8s b_0) b_0.length), (7, .int .i64 (↑b_0.length : Int)), (8, .int .i64 (↑s.2 : Int))] []
def dGHash_L1_X (b_0 : (List UInt8)) : Int → AEx := fun o => (.exit 0)
def dGHash_L1_T (b_0 : (List UInt8)) : Int → List (Nat × AV) := fun o => [(3, .int .u64 o)]
def dGHash_L1_B (b_0 : (List UInt8)) : Int → List Blk := fun o => []
def dGHash_L1_E (b_0 : (List UInt8)) (q : Int) : St := S 19 (dGHash_L1_T b_0 q) (dGHash_L1_B b_0 q)
theorem dGHash_L1_does (b_0 : (List UInt8)) {s : (Int × Nat)} {r : Int} (h : lp (dGHash_L1_step b_0) s = some r) : Does Tryz.prog G0 0 (.loop (bodyAt Tryz.prog 56 [1, 1, 0, 1, 0, 0])) (dGHash_L1_H b_0 s) (dGHash_L1_X b_0 r) (dGHash_L1_E b_0 r) := by
 refine Does.lp (H := dGHash_L1_H b_0) (X := dGHash_L1_X b_0) (E := dGHash_L1_E b_0) (fun s s2 h => ?_) (fun s r h => ?_) h
 ·obtain ⟨v3, k8⟩ := s
  unfold dGHash_L1_step at h
  try dsimp only at h
  rcases itS h with ⟨c9, h⟩ | ⟨c9, h⟩
  ·obtain ⟨x10, h11, h⟩ := bnS h
   obtain ⟨h12, h⟩ := gdS h
   obtain ⟨y13, h14, h⟩ := bnS h
   obtain ⟨h15, h⟩ := gdS h
   obtain rfl := oL h
   exact Does.of_viewM 0 400 (oa :: bt :: (.op none (.i k8)) :: (.op none (.v [.int .u8 (x10.toNat : Int)])) :: (cs 3 [ow, oa, .tr (.eqt (.t 15) (.int .u64 y13)), oa, oc, ow, oc])) [] (by kernel_rfl) (by kernel_rfl) (k2 (dT c9) (k2 (ir h11) (k2 ((u8s_ne h11) : (u8s b_0) ≠ []) (k2 ((u8s_sub1 h11) : sub (u8s b_0) k8 1 = [.int .u8 (x10.toNat : Int)]) (k2 h12 (k2 ((congrArg _ (Option.some.inj h14)) : (.int .u64 (IntKind.wrap .u64 ((BitVec.ofInt (IntKind.bits .u64) v3 ^^^ BitVec.ofInt (IntKind.bits .u64) (x10.toNat : Int)).toNat : Int)) : AV) = .int .u64 y13) (ok1 h15)))))))
  ·simp at h
 ·obtain ⟨v3, k8⟩ := s
  unfold dGHash_L1_step at h
  try dsimp only at h
  rcases itS h with ⟨c9, h⟩ | ⟨c9, h⟩
  ·obtain ⟨x10, h11, h⟩ := bnS h
   obtain ⟨h12, h⟩ := gdS h
   obtain ⟨y13, h14, h⟩ := bnS h
   obtain ⟨h15, h⟩ := gdS h
   simp at h
  ·obtain rfl := oR h
   exact ⟨Does.of_viewM 0 400 [oa, .br false] [] (by kernel_rfl) (by kernel_rfl) (ok1 (dF c9)), by intro q; cases q⟩
def dGHash (b_0 : (List UInt8)) : Option Int :=
 (lp (dGHash_L1_step b_0) ((14695981039346656037 : Int), (0 : Nat))).bind fun o1 =>
 some o1
theorem dGHash_ret (b_0 : (List UInt8)) (r : Int) (h : dGHash b_0 = some r) : Ret Tryz.prog G0 56 [.lst (u8s b_0) b_0.length] (.int .u64 r) [] := by
 unfold dGHash at h
 obtain ⟨o1, hl1, h⟩ := bnS h
 obtain rfl := oI h
 exact Ret.of_view 400 (cs 5 ((.fcut 0 (.exit 0) [(3, .int .u64 o1)] [] [] [(3, .int .u64 (14695981039346656037 : Int)), (6, .any), (7, .any), (8, jI (↑(0 : Nat) : Int))] []) :: (cs 2 []))) [] (by kernel_rfl) (by kernel_rfl) (k2 (rfl : (.int .u64 14695981039346656037 : AV) = .int .u64 (14695981039346656037 : Int)) (k2 (rfl : (jI 0 : AV) = jI (↑(0 : Nat) : Int)) (ok1 (dGHash_L1_does b_0 (s := ((14695981039346656037 : Int), (0 : Nat))) (r := o1) hl1))))
def aUleaf_L7_step (x_0 : TC) : (Nat × (List Int) × (List UInt8)) → Option ((Nat × (List Int) × (List UInt8)) ⊕ ((List Int) × (List UInt8)))
 | (k30, b4, b3) =>
  if (↑k30 : Int) < (4 : Int) then
   (b4[k30]?).bind fun x22 =>
   (cDPutInt b3 x22).bind fun r24 =>
   if InR .i64 ((↑k30 : Int) + 1) then
    some (Sum.inl ((k30 + 1), b4, r24))
   else none
  else
   some (Sum.inr (b4, b3))
def aUleaf_L7_H (x_0 : TC) : (Nat × (List Int) × (List UInt8)) → St := fun (s : (Nat × (List Int) × (List UInt8))) => S 55 [(1, .ptr 0 0), (3, .vec 2 s.2.2.length 1), (28, .sl 1 0 s.2.1.length s.2.1.length true 1), (29, .int .i64 4), (30, .int .i64 (↑s.1 : Int))] [(bT (TC.enc x_0) 35), (bT (fl e_i64 s.2.1) 3), (bV (u8s s.2.2) 5)]
def aUleaf_L7_X (x_0 : TC) : ((List Int) × (List UInt8)) → AEx := fun o => (.exit 0)
def aUleaf_L7_T (x_0 : TC) : ((List Int) × (List UInt8)) → List (Nat × AV) := fun o => [(1, .ptr 0 0), (3, .vec 2 o.2.length 1)]
def aUleaf_L7_B (x_0 : TC) : ((List Int) × (List UInt8)) → List Blk := fun o => [(bT (TC.enc x_0) 35), (bT (fl e_i64 o.1) 3), (bV (u8s o.2) 5)]
def aUleaf_L7_E (x_0 : TC) (q : ((List Int) × (List UInt8))) : St := S 55 (aUleaf_L7_T x_0 q) (aUleaf_L7_B x_0 q)
theorem aUleaf_L7_does (x_0 : TC) {s : (Nat × (List Int) × (List UInt8))} {r : ((List Int) × (List UInt8))} (h : lp (aUleaf_L7_step x_0) s = some r) : Does Tryz.prog G0 2 (.loop (bodyAt Tryz.prog 29 [1, 1, 1, 1, 0, 1, 0, 0])) (aUleaf_L7_H x_0 s) (aUleaf_L7_X x_0 r) (aUleaf_L7_E x_0 r) := by
 refine Does.lp (H := aUleaf_L7_H x_0) (X := aUleaf_L7_X x_0) (E := aUleaf_L7_E x_0) (fun s s2 h => ?_) (fun s r h => ?_) h
 ·obtain ⟨k30, b4, b3⟩ := s
  unfold aUleaf_L7_step at h
  try dsimp only at h
  rcases itS h with ⟨c21, h⟩ | ⟨c21, h⟩
  ·obtain ⟨x22, h23, h⟩ := bnS h
   obtain ⟨r24, h25, h⟩ := bnS h
   obtain ⟨h26, h⟩ := gdS h
   obtain rfl := oL h
   exact Does.of_viewM 2 400 (oa :: bt :: (.op none (.i k30)) :: (vI x22) :: (cs 3 [.ret none [.lst (u8s b3) b3.length, .any] (.vec 0 r24.length 1) [(bV (u8s r24) 5)], oc, ow, oc])) [0, 1, 3] (by kernel_rfl) (by kernel_rfl) (k2 (dT c21) (k2 (ir h23) (k2 (s_i64 h23) (k2 (⟨rfl, rfl, u8s_length⟩ : (u8s b3) = (u8s b3) ∧ b3.length = b3.length ∧ List.length ((u8s b3) : List AV) = b3.length) (k2 (⟨u8s_dat, trivial⟩ : datBlks [(bV (u8s r24) 5)]) (k2 (cDPutInt_ret b3 x22 r24 h25) (ok1 h26)))))))
  ·simp at h
 ·obtain ⟨k30, b4, b3⟩ := s
  unfold aUleaf_L7_step at h
  try dsimp only at h
  rcases itS h with ⟨c21, h⟩ | ⟨c21, h⟩
  ·obtain ⟨x22, h23, h⟩ := bnS h
   obtain ⟨r24, h25, h⟩ := bnS h
   obtain ⟨h26, h⟩ := gdS h
   simp at h
  ·obtain rfl := oR h
   exact ⟨Does.of_viewM 2 400 [oa, .br false] [0, 1, 2] (by kernel_rfl) (by kernel_rfl) (ok1 (dF c21)), by intro q; cases q⟩
def aUleaf_L27_step (x_0 : TC) : (Nat × (List UInt8)) → Option ((Nat × (List UInt8)) ⊕ (List UInt8))
 | (k41, b7) =>
  if (↑k41 : Int) < (↑x_0.Lines.length : Int) then
   (x_0.Lines[k41]?).bind fun x37 =>
   (cDPutText b7 x37.Text).bind fun r39 =>
   (cDPutInt r39 x37.Cents).bind fun r41 =>
   if InR .i64 ((↑k41 : Int) + 1) then
    some (Sum.inl ((k41 + 1), r41))
   else none
  else
   some (Sum.inr b7)
def aUleaf_L27_H (x_0 : TC) : (Nat × (List UInt8)) → St := fun (s : (Nat × (List UInt8))) => S 55 [(3, .vec 0 s.2.length 1), (39, .lst (fl TL.enc x_0.Lines) x_0.Lines.length), (40, .int .i64 (↑x_0.Lines.length : Int)), (41, .int .i64 (↑s.1 : Int))] [(bV (u8s s.2) 5)]
def aUleaf_L27_X (x_0 : TC) : (List UInt8) → AEx := fun o => (.exit 2)
def aUleaf_L27_T (x_0 : TC) : (List UInt8) → List (Nat × AV) := fun o => [(3, .vec 0 o.length 1)]
def aUleaf_L27_B (x_0 : TC) : (List UInt8) → List Blk := fun o => [(bV (u8s o) 5)]
def aUleaf_L27_E (x_0 : TC) (q : (List UInt8)) : St := S 55 (aUleaf_L27_T x_0 q) (aUleaf_L27_B x_0 q)
theorem aUleaf_L27_does (x_0 : TC) {s : (Nat × (List UInt8))} {r : (List UInt8)} (h : lp (aUleaf_L27_step x_0) s = some r) : Does Tryz.prog G0 0 (.loop (bodyAt Tryz.prog 29 [1, 1, 1, 1, 1, 0, 1, 0, 0])) (aUleaf_L27_H x_0 s) (aUleaf_L27_X x_0 r) (aUleaf_L27_E x_0 r) := by
 refine Does.lp (H := aUleaf_L27_H x_0) (X := aUleaf_L27_X x_0) (E := aUleaf_L27_E x_0) (fun s s2 h => ?_) (fun s r h => ?_) h
 ·obtain ⟨k41, b7⟩ := s
  unfold aUleaf_L27_step at h
  try dsimp only at h
  rcases itS h with ⟨c36, h⟩ | ⟨c36, h⟩
  ·obtain ⟨x37, h38, h⟩ := bnS h
   obtain ⟨r39, h40, h⟩ := bnS h
   obtain ⟨r41, h42, h⟩ := bnS h
   obtain ⟨h43, h⟩ := gdS h
   obtain rfl := oL h
   exact Does.of_viewM 0 400 (oa :: bt :: (.op none (.i k41)) :: (.op none (.v [.str x37.Text, jI x37.Cents])) :: (cs 5 ((.ret none [.lst (u8s b7) b7.length, .any] (.vec 0 r39.length 1) [(bV (u8s r39) 5)]) :: (cs 2 [.ret none [.lst (u8s r39) r39.length, .any] (.vec 0 r41.length 1) [(bV (u8s r41) 5)], oc, ow, oc])))) [3] (by kernel_rfl) (by kernel_rfl) (k2 (dT c36) (k2 (ir h38) (k2 (fl_ne (f := TL.enc) (z := 1) (fun _ => rfl) h38) (k2 (fl_sub0 (f := TL.enc) (z := 2) (j := k41) (fun _ => rfl) h38 rfl) (k2 (⟨rfl, rfl, u8s_length⟩ : (u8s b7) = (u8s b7) ∧ b7.length = b7.length ∧ List.length ((u8s b7) : List AV) = b7.length) (k2 (⟨u8s_dat, trivial⟩ : datBlks [(bV (u8s r39) 5)]) (k2 (cDPutText_ret b7 x37.Text r39 h40) (k2 (⟨rfl, trivial⟩ : (some (Ob.blk (bV (u8s b7) 5)) = some (Ob.blk (bV (u8s b7) 5))) ∧ True) (k2 (⟨rfl, rfl, u8s_length⟩ : (u8s r39) = (u8s r39) ∧ r39.length = r39.length ∧ List.length ((u8s r39) : List AV) = r39.length) (k2 (⟨u8s_dat, trivial⟩ : datBlks [(bV (u8s r41) 5)]) (k2 (cDPutInt_ret r39 x37.Cents r41 h42) (k2 (⟨rfl, trivial⟩ : (some (Ob.blk (bV (u8s r39) 5)) = some (Ob.blk (bV (u8s r39) 5))) ∧ True) (ok1 h43)))))))))))))
  ·simp at h
 ·obtain ⟨k41, b7⟩ := s
  unfold aUleaf_L27_step at h
  try dsimp only at h
  rcases itS h with ⟨c36, h⟩ | ⟨c36, h⟩
  ·obtain ⟨x37, h38, h⟩ := bnS h
   obtain ⟨r39, h40, h⟩ := bnS h
   obtain ⟨r41, h42, h⟩ := bnS h
   obtain ⟨h43, h⟩ := gdS h
   simp at h
  ·obtain rfl := oR h
   exact ⟨Does.of_viewM 0 400 [oa, .br false] [0] (by kernel_rfl) (by kernel_rfl) (ok1 (dF c36)), by intro q; cases q⟩
def aUleaf (x_0 : TC) : Option Int :=
 (cDPutText [] x_0.Key).bind fun r1 =>
 (cDPutText r1 x_0.Vehicle).bind fun r3 =>
 (cDPutText r3 x_0.System).bind fun r5 =>
 (lp (aUleaf_L7_step x_0) ((0 : Nat), ([x_0.Class, x_0.Time, x_0.Cents, (↑x_0.Lines.length : Int)] : (List Int)), r5)).bind fun o7 =>
 (lp (aUleaf_L27_step x_0) ((0 : Nat), o7.2)).bind fun o27 =>
 (dGHash o27).bind fun r44 =>
 some r44
theorem aUleaf_ret (x_0 : TC) (r : Int) (h : aUleaf x_0 = some r) : Ret Tryz.prog G0 29 [.agg (TC.enc x_0)] (.int .u64 r) [] := by
 unfold aUleaf at h
 obtain ⟨r1, h2, h⟩ := bnS h
 obtain ⟨r3, h4, h⟩ := bnS h
 obtain ⟨r5, h6, h⟩ := bnS h
 obtain ⟨o7, hl7, h⟩ := bnS h
 obtain ⟨o27, hl27, h⟩ := bnS h
 obtain ⟨r44, h45, h⟩ := bnS h
 obtain rfl := oI h
 exact Ret.of_view 400 (cs 4 ((.ret none [.lst [] 0, .any] (.vec 0 r1.length 1) [(bV (u8s r1) 5)]) :: (cs 4 ((.ret none [.lst (u8s r1) r1.length, .any] (.vec 0 r3.length 1) [(bV (u8s r3) 5)]) :: (cs 4 ((.ret none [.lst (u8s r3) r3.length, .any] (.vec 0 r5.length 1) [(bV (u8s r5) 5)]) :: (cs 13 ((.fcut 2 (.exit 0) (aUleaf_L7_T x_0 o7) (aUleaf_L7_B x_0 o7) [0, 4, 3] [(1, .any), (3, .vec 2 r5.length 1), (28, .sl 1 0 (([x_0.Class, x_0.Time, x_0.Cents, (↑x_0.Lines.length : Int)] : (List Int)).length) (([x_0.Class, x_0.Time, x_0.Cents, (↑x_0.Lines.length : Int)] : (List Int)).length) true 1), (29, .any), (30, jI (↑(0 : Nat) : Int))] [bS, (bT (fl e_i64 ([x_0.Class, x_0.Time, x_0.Cents, (↑x_0.Lines.length : Int)] : (List Int))) 3), bS]) :: (cs 4 [.fcut 0 (.exit 2) [(3, .vec 0 o27.length 1)] [(bV (u8s o27) 5)] [7] [(3, .vec 0 o7.2.length 1), (39, .any), (40, .any), (41, jI (↑(0 : Nat) : Int))] [bS], oc, .ret none [.lst (u8s o27) o27.length] (.int .u64 r44) [], oc]))))))))) [] (by kernel_rfl) (by kernel_rfl) (k2 (cDPutText_ret [] x_0.Key r1 h2) (k2 (⟨rfl, rfl, u8s_length⟩ : (u8s r1) = (u8s r1) ∧ r1.length = r1.length ∧ List.length ((u8s r1) : List AV) = r1.length) (k2 (⟨u8s_dat, trivial⟩ : datBlks [(bV (u8s r3) 5)]) (k2 (cDPutText_ret r1 x_0.Vehicle r3 h4) (k2 (⟨rfl, rfl, u8s_length⟩ : (u8s r3) = (u8s r3) ∧ r3.length = r3.length ∧ List.length ((u8s r3) : List AV) = r3.length) (k2 (⟨u8s_dat, trivial⟩ : datBlks [(bV (u8s r5) 5)]) (k2 (cDPutText_ret r3 x_0.System r5 h6) (k2 ((by first | rfl | simp only [List.length_replicate, List.length_set]) : (.vec 3 r5.length 1 : AV) = .vec 3 r5.length 1) (k2 (rfl : (.sl 4 0 4 4 true 1 : AV) = .sl 4 0 (([x_0.Class, x_0.Time, x_0.Cents, (↑x_0.Lines.length : Int)] : (List Int)).length) (([x_0.Class, x_0.Time, x_0.Cents, (↑x_0.Lines.length : Int)] : (List Int)).length) true 1) (k2 (rfl : (jI 0 : AV) = jI (↑(0 : Nat) : Int)) (k2 (rfl : ((bT [jI x_0.Class, jI x_0.Time, jI x_0.Cents, jI (↑x_0.Lines.length : Int)] 3) : Blk) = renB [0, 4, 3] (bT (fl e_i64 ([x_0.Class, x_0.Time, x_0.Cents, (↑x_0.Lines.length : Int)] : (List Int))) 3)) (k2 (aUleaf_L7_does x_0 (s := ((0 : Nat), ([x_0.Class, x_0.Time, x_0.Cents, (↑x_0.Lines.length : Int)] : (List Int)), r5)) (r := o7) hl7) (k2 ((by first | rfl | simp only [List.length_replicate, List.length_set]) : (.vec 7 o7.2.length 1 : AV) = .vec 7 o7.2.length 1) (k2 (rfl : (jI 0 : AV) = jI (↑(0 : Nat) : Int)) (k2 (aUleaf_L27_does x_0 (s := ((0 : Nat), o7.2)) (r := o27) hl27) (k2 (⟨rfl, rfl, u8s_length⟩ : (u8s o27) = (u8s o27) ∧ o27.length = o27.length ∧ List.length ((u8s o27) : List AV) = o27.length) (k2 (trivial : datBlks []) (ok1 (dGHash_ret o27 r44 h45)))))))))))))))))))
def aULeaves_L1_step (l_0 : (List TC)) : (Nat × (List Int)) → Option ((Nat × (List Int)) ⊕ (List Int))
 | (k8, b0) =>
  if (↑k8 : Int) < (↑l_0.length : Int) then
   (l_0[k8]?).bind fun x10 =>
   (aUleaf x10).bind fun r12 =>
   if b0.length + 1 ≤ 4294967296 then
    if InR .i64 ((↑k8 : Int) + 1) then
     some (Sum.inl ((k8 + 1), (b0 ++ [r12])))
    else none
   else none
  else
   some (Sum.inr b0)
def aULeaves_L1_H (l_0 : (List TC)) : (Nat × (List Int)) → St := fun (s : (Nat × (List Int))) => S 19 [(3, .vec 0 s.2.length 1), (6, .lst (fl TC.enc l_0) l_0.length), (7, .int .i64 (↑l_0.length : Int)), (8, .int .i64 (↑s.1 : Int))] [(bV (fl e_u64 s.2) 41)]
def aULeaves_L1_X (l_0 : (List TC)) : (List Int) → AEx := fun o => (.exit 0)
def aULeaves_L1_T (l_0 : (List TC)) : (List Int) → List (Nat × AV) := fun o => [(3, .vec 0 o.length 1)]
def aULeaves_L1_B (l_0 : (List TC)) : (List Int) → List Blk := fun o => [(bV (fl e_u64 o) 41)]
def aULeaves_L1_E (l_0 : (List TC)) (q : (List Int)) : St := S 19 (aULeaves_L1_T l_0 q) (aULeaves_L1_B l_0 q)
theorem aULeaves_L1_does (l_0 : (List TC)) {s : (Nat × (List Int))} {r : (List Int)} (h : lp (aULeaves_L1_step l_0) s = some r) : Does Tryz.prog G0 0 (.loop (bodyAt Tryz.prog 13 [1, 1, 0, 1, 0, 0])) (aULeaves_L1_H l_0 s) (aULeaves_L1_X l_0 r) (aULeaves_L1_E l_0 r) := by
 refine Does.lp (H := aULeaves_L1_H l_0) (X := aULeaves_L1_X l_0) (E := aULeaves_L1_E l_0) (fun s s2 h => ?_) (fun s r h => ?_) h
 ·obtain ⟨k8, b0⟩ := s
  unfold aULeaves_L1_step at h
  try dsimp only at h
  rcases itS h with ⟨c9, h⟩ | ⟨c9, h⟩
  ·obtain ⟨x10, h11, h⟩ := bnS h
   obtain ⟨r12, h13, h⟩ := bnS h
   obtain ⟨h14, h⟩ := gdS h
   obtain ⟨h15, h⟩ := gdS h
   obtain rfl := oL h
   exact Does.of_viewM 0 400 (oa :: bt :: (.op none (.i k8)) :: (.op none (.v [.str x10.Key, .str x10.Vehicle, .str x10.System, jI x10.Class, jI x10.Time, .lst (fl TL.enc x10.Lines) x10.Lines.length, jI x10.Cents])) :: (cs 4 [.ret none [.any] (.int .u64 r12) [], oc, .op none (.ap 4), .tr (.eqc 3 (fl e_u64 (b0 ++ [r12]))), .tr (.eqt (.t 16) (.vec 3 ((b0 ++ [r12]).length) 1)), oc, ow, oc])) [3] (by kernel_rfl) (by kernel_rfl) (k2 (dT c9) (k2 (ir h11) (k2 (fl_ne (f := TC.enc) (z := 6) (fun _ => rfl) h11) (k2 (fl_sub0 (f := TC.enc) (z := 7) (j := k8) (fun _ => rfl) h11 rfl) (k2 (aUleaf_ret x10 r12 h13) (k2 ((nB rfl) : 0 + 1 ≤ List.length ([.int .u64 r12] : List AV)) (k2 ((fl_length1 (f := e_u64) (fun _ => rfl) _) : List.length ((fl e_u64 b0) : List AV) = b0.length) (k2 (rfl : List.all ([.int .u64 r12] : List AV) AV.one = true) (k2 h14 (k2 ((fl_snoc rfl) : (fl e_u64 b0) ++ [.int .u64 r12] = (fl e_u64 (b0 ++ [r12]))) (k2 ((by simp <;> omega) : (.vec 3 (b0.length + 1) 1 : AV) = .vec 3 ((b0 ++ [r12]).length) 1) (ok1 h15))))))))))))
  ·simp at h
 ·obtain ⟨k8, b0⟩ := s
  unfold aULeaves_L1_step at h
  try dsimp only at h
  rcases itS h with ⟨c9, h⟩ | ⟨c9, h⟩
  ·obtain ⟨x10, h11, h⟩ := bnS h
   obtain ⟨r12, h13, h⟩ := bnS h
   obtain ⟨h14, h⟩ := gdS h
   obtain ⟨h15, h⟩ := gdS h
   simp at h
  ·obtain rfl := oR h
   exact ⟨Does.of_viewM 0 400 [oa, .br false] [0] (by kernel_rfl) (by kernel_rfl) (ok1 (dF c9)), by intro q; cases q⟩
def aULeaves (l_0 : (List TC)) : Option (List Int) :=
 (lp (aULeaves_L1_step l_0) ((0 : Nat), ([] : (List Int)))).bind fun o1 =>
 some o1
theorem aULeaves_ret (l_0 : (List TC)) (r : (List Int)) (h : aULeaves l_0 = some r) : Ret Tryz.prog G0 13 [.lst (fl TC.enc l_0) l_0.length] (.vec 0 r.length 1) [(bV (fl e_u64 r) 41)] := by
 unfold aULeaves at h
 obtain ⟨o1, hl1, h⟩ := bnS h
 obtain rfl := oI h
 exact Ret.of_view 400 (cs 5 ((.tr (.vec (.t 3) 1 41)) :: (.fcut 0 (.exit 0) [(3, .vec 0 o1.length 1)] [(bV (fl e_u64 o1) 41)] [0] [(3, .vec 0 (([] : (List Int)).length) 1), (6, .any), (7, .any), (8, jI (↑(0 : Nat) : Int))] [(bV (fl e_u64 ([] : (List Int))) 41)]) :: (cs 2 []))) [1] (by kernel_rfl) (by kernel_rfl) (k2 ((by first | rfl | simp only [List.length_replicate, List.length_set]) : (.vec 0 0 1 : AV) = .vec 0 (([] : (List Int)).length) 1) (k2 (rfl : (jI 0 : AV) = jI (↑(0 : Nat) : Int)) (k2 (rfl : ((bV [] 41) : Blk) = renB [0] (bV (fl e_u64 ([] : (List Int))) 41)) (ok1 (aULeaves_L1_does l_0 (s := ((0 : Nat), ([] : (List Int)))) (r := o1) hl1)))))
def clock_Day (t_0 : Int) : Option Int :=
 if t_0 ≥ (0 : Int) then
  if t_0 < (68719476736 : Int) then
   if InR .i64 (tdiv t_0 86400) then
    some (tdiv t_0 86400)
   else none
  else
   some (-1)
 else
  some (-1)
theorem clock_Day_ret (t_0 : Int) (r : Int) (h : clock_Day t_0 = some r) : Ret Tryz.prog G0 37 [.int .i64 t_0] (.int .i64 r) [] := by
 unfold clock_Day at h
 let f2 : List CH := (cs 5 [oa, oc])
 rcases itS h with ⟨c1, h⟩ | ⟨c1, h⟩
 ·let f3 : List CH := (tc :: oa :: (cs 3 []))
  rcases itS h with ⟨c2, h⟩ | ⟨c2, h⟩
  ·obtain ⟨h3, h⟩ := gdS h
   obtain rfl := oI h
   exact Ret.of_view 400 (f2 ++ (f3 ++ [.br false, oc, ow, oc])) [] (by kernel_rfl) (by kernel_rfl) (k2 (dT c1) (k2 (not_f (dT c2)) (k2 ((by decide) : 86400 ≠ (0 : Int)) (ok1 h3))))
  ·obtain rfl := oI h
   exact Ret.of_view 400 (f2 ++ (f3 ++ [.br true, oc])) [] (by kernel_rfl) (by kernel_rfl) (k2 (dT c1) (ok1 (not_t (dF c2))))
 ·obtain rfl := oI h
  exact Ret.of_view 400 (f2 ++ (oF :: (cs 4 [.br true, oc]))) [] (by kernel_rfl) (by kernel_rfl) (k2 (dF c1) (ok1 (rfl : true = true)))
end
end Go.Proofs.YtpadimnchmghpaaGreatDoor.Av
