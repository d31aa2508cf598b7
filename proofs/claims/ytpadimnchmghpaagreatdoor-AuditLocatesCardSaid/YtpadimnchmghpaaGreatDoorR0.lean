import Derived.Test.YtpadimnchmghpaaGreatDoorAvZ
import Derived.Test.YtpadimnchmghpaaGreatDoorProg
import Derived.Tactics
import Derived.Test.YtpadimnchmghpaaGreatDoorN0
import Derived.Test.YtpadimnchmghpaaGreatDoorAvSh
set_option linter.unusedVariables false
set_option linter.unusedSimpArgs false
set_option maxHeartbeats 4000000
set_option maxRecDepth 100000
namespace Go.Proofs.YtpadimnchmghpaaGreatDoor.Av
open Go Go.Proofs
noncomputable def tollwayref02_Copy (b_0 : (List UInt8)) : Option (List UInt8) :=
  if 0 + b_0.length ≤ 4294967296 then
    some b_0
  else none
theorem tollwayref02_Copy_ret (b_0 : (List UInt8)) (r : (List UInt8)) (h : tollwayref02_Copy b_0 = some r) : Ret Tryz.prog G0 71 [.lst (u8s b_0) b_0.length] (.vec 0 r.length 1) [(bV (u8s r) 5)] := by
  unfold tollwayref02_Copy at h
  obtain ⟨h1, h⟩ := guard_some h
  obtain rfl := oI h
  exact Ret.of_view 400 (cs 4 [.tr (.vec (.t 4) 1 5), .op none (.ap 4), .tr (.eqc 1 (u8s b_0)), .tr (.eqt (.t 6) (.vec 1 b_0.length 1)), oc]) [1] (by kernel_rfl) (by kernel_rfl) (k2 (u8s_length : List.length ((u8s b_0) : List AV) = b_0.length) (k2 (rfl : List.length ([] : List AV) = 0) (k2 ((u8s_one _) : List.all ((u8s b_0) : List AV) AV.one = true) (k2 h1 (k2 (rfl : [] ++ (u8s b_0) = (u8s b_0)) (ok1 ((by simp <;> omega) : (.vec 1 (0 + b_0.length) 1 : AV) = .vec 1 b_0.length 1)))))))
noncomputable def tollwayref02_PutInt_L9_step  : (Int × (List UInt8)) → Option ((Int × (List UInt8)) ⊕ (Int × (List UInt8)))
  | (v6, b0) =>
    if v6 ≥ (128 : Int) then
      if InR .u8 (Int.tmod v6 128) then
        if InR .u8 ((Int.tmod v6 128) + 128) then
          if b0.length + 1 ≤ 4294967296 then
            if InR .u64 (Int.tdiv v6 128) then
              some (Sum.inl ((Int.tdiv v6 128), (b0 ++ [(UInt8.ofNat (Int.toNat ((Int.tmod v6 128) + 128)))])))
            else none
          else none
        else none
      else none
    else
      some (Sum.inr (v6, b0))
def tollwayref02_PutInt_L9_H  : (Int × (List UInt8)) → St := fun (s : (Int × (List UInt8))) => S 36 [(5, .vec 0 s.2.length 1), (6, .int .u64 s.1)] [(bV (u8s s.2) 5)]
def tollwayref02_PutInt_L9_X  : (Int × (List UInt8)) → AEx := fun o => (.exit 0)
def tollwayref02_PutInt_L9_T  : (Int × (List UInt8)) → List (Nat × AV) := fun o => [(5, .vec 0 o.2.length 1), (6, .int .u64 o.1)]
def tollwayref02_PutInt_L9_B  : (Int × (List UInt8)) → List Blk := fun o => [(bV (u8s o.2) 5)]
def tollwayref02_PutInt_L9_E  (q : (Int × (List UInt8))) : St := S 36 (tollwayref02_PutInt_L9_T  q) (tollwayref02_PutInt_L9_B  q)
theorem tollwayref02_PutInt_L9_does  {s : (Int × (List UInt8))} {r : (Int × (List UInt8))} (h : lp (tollwayref02_PutInt_L9_step ) s = some r) : Does Tryz.prog G0 0 (.loop (bodyAt Tryz.prog 51 [1, 1, 1, 1, 0, 0, 0])) (tollwayref02_PutInt_L9_H  s) (tollwayref02_PutInt_L9_X  r) (tollwayref02_PutInt_L9_E  r) := by
  refine Does.lp (H := tollwayref02_PutInt_L9_H ) (X := tollwayref02_PutInt_L9_X ) (E := tollwayref02_PutInt_L9_E ) (fun s s2 h => ?_) (fun s r h => ?_) h
  · obtain ⟨v6, b0⟩ := s
    unfold tollwayref02_PutInt_L9_step at h
    try dsimp only at h
    rcases ite_some h with ⟨c15, h⟩ | ⟨c15, h⟩
    · obtain ⟨h16, h⟩ := guard_some h
      obtain ⟨h17, h⟩ := guard_some h
      obtain ⟨h18, h⟩ := guard_some h
      obtain ⟨h19, h⟩ := guard_some h
      obtain rfl := oL h
      exact Does.of_viewM 0 400 (oc :: oa :: (.br true) :: (cs 2 (oa :: ow :: ow :: oc :: (.op none (.ap 4)) :: (.tr (.eqc 2 (u8s (b0 ++ [(UInt8.ofNat (Int.toNat ((Int.tmod v6 128) + 128)))])))) :: (.tr (.eqt (.t 28) (.vec 2 ((b0 ++ [(UInt8.ofNat (Int.toNat ((Int.tmod v6 128) + 128)))]).length) 1))) :: (cs 2 [ow, oc])))) [2] (by kernel_rfl) (by kernel_rfl) (k2 (decide_eq_true c15) (k2 ((by decide) : 128 ≠ (0 : Int)) (k2 h16 (k2 h17 (k2 ((Nat.le_of_ble_eq_true rfl) : 0 + 1 ≤ List.length ([.int .u8 ((Int.tmod v6 128) + 128)] : List AV)) (k2 (u8s_length : List.length ((u8s b0) : List AV) = b0.length) (k2 (rfl : List.all ([.int .u8 ((Int.tmod v6 128) + 128)] : List AV) AV.one = true) (k2 h18 (k2 ((u8s_snoc (congrArg (fun q => [q]) (u8_of h17))) : (u8s b0) ++ [.int .u8 ((Int.tmod v6 128) + 128)] = (u8s (b0 ++ [(UInt8.ofNat (Int.toNat ((Int.tmod v6 128) + 128)))]))) (k2 ((by simp <;> omega) : (.vec 2 (b0.length + 1) 1 : AV) = .vec 2 ((b0 ++ [(UInt8.ofNat (Int.toNat ((Int.tmod v6 128) + 128)))]).length) 1) (k2 ((by decide) : 128 ≠ (0 : Int)) (ok1 h19))))))))))))
    · simp at h
  · obtain ⟨v6, b0⟩ := s
    unfold tollwayref02_PutInt_L9_step at h
    try dsimp only at h
    rcases ite_some h with ⟨c15, h⟩ | ⟨c15, h⟩
    · obtain ⟨h16, h⟩ := guard_some h
      obtain ⟨h17, h⟩ := guard_some h
      obtain ⟨h18, h⟩ := guard_some h
      obtain ⟨h19, h⟩ := guard_some h
      simp at h
    · obtain rfl := oR h
      exact ⟨Does.of_viewM 0 400 [oc, oa, .br false] [0] (by kernel_rfl) (by kernel_rfl) (ok1 (decide_eq_false c15)), by intro q; cases q⟩
noncomputable def tollwayref02_PutInt (b_0 : (List UInt8)) (n_1 : Int) : Option (List UInt8) :=
  (tollwayref02_Copy b_0).bind fun r1 =>
  if n_1 < (0 : Int) then
    if InR .i64 (n_1 + 1) then
      if InR .i64 (0 - (n_1 + 1)) then
        if InR .u64 (0 - (n_1 + 1)) then
          if InR .u64 (2 * (0 - (n_1 + 1))) then
            if InR .u64 ((2 * (0 - (n_1 + 1))) + 1) then
              (lp (tollwayref02_PutInt_L9_step) (((2 * (0 - (n_1 + 1))) + 1), r1)).bind fun o9 =>
              if InR .u8 (o9.1) then
                if o9.2.length + 1 ≤ 4294967296 then
                  some (o9.2 ++ [(UInt8.ofNat o9.1.toNat)])
                else none
              else none
            else none
          else none
        else none
      else none
    else none
  else
    if InR .u64 (n_1) then
      if InR .u64 (2 * n_1) then
        (lp (tollwayref02_PutInt_L9_step) ((2 * n_1), r1)).bind fun o24 =>
        if InR .u8 (o24.1) then
          if o24.2.length + 1 ≤ 4294967296 then
            some (o24.2 ++ [(UInt8.ofNat o24.1.toNat)])
          else none
        else none
      else none
    else none
theorem tollwayref02_PutInt_ret (b_0 : (List UInt8)) (n_1 : Int) (r : (List UInt8)) (h : tollwayref02_PutInt b_0 n_1 = some r) : Ret Tryz.prog G0 51 [.lst (u8s b_0) b_0.length, .int .i64 n_1] (.vec 0 r.length 1) [(bV (u8s r) 5)] := by
  unfold tollwayref02_PutInt at h
  obtain ⟨r1, h2, h⟩ := bind_some h
  rcases ite_some h with ⟨c3, h⟩ | ⟨c3, h⟩
  · obtain ⟨h4, h⟩ := guard_some h
    obtain ⟨h5, h⟩ := guard_some h
    obtain ⟨h6, h⟩ := guard_some h
    obtain ⟨h7, h⟩ := guard_some h
    obtain ⟨h8, h⟩ := guard_some h
    obtain ⟨o9, hl9, h⟩ := bind_some h
    obtain ⟨h20, h⟩ := guard_some h
    obtain ⟨h21, h⟩ := guard_some h
    obtain rfl := oI h
    exact Ret.of_view 400 (cs 2 ((.ret none [.any] (.vec 0 r1.length 1) [(bV (u8s r1) 5)]) :: (cs 3 (oa :: (.br true) :: oc :: ow :: ow :: ow :: ow :: ow :: oc :: (.fcut 0 (.exit 0) (tollwayref02_PutInt_L9_T o9) [(bV (u8s o9.2) 5)] [0] [(5, .any), (6, .any)] [bS]) :: (cs 2 [ow, oc, .op none (.ap 4), .tr (.eqc 3 (u8s (o9.2 ++ [(UInt8.ofNat o9.1.toNat)]))), .tr (.eqt (.t 35) (.vec 3 ((o9.2 ++ [(UInt8.ofNat o9.1.toNat)]).length) 1)), oc]))))) [3] (by kernel_rfl) (by kernel_rfl) (k2 (tollwayref02_Copy_ret b_0 r1 h2) (k2 (decide_eq_true c3) (k2 h4 (k2 h5 (k2 h6 (k2 h7 (k2 h8 (k2 (tollwayref02_PutInt_L9_does (s := (((2 * (0 - (n_1 + 1))) + 1), r1)) (r := o9) hl9) (k2 h20 (k2 ((Nat.le_of_ble_eq_true rfl) : 0 + 1 ≤ List.length ([.int .u8 o9.1] : List AV)) (k2 (u8s_length : List.length ((u8s o9.2) : List AV) = o9.2.length) (k2 (rfl : List.all ([.int .u8 o9.1] : List AV) AV.one = true) (k2 h21 (k2 ((u8s_snoc (congrArg (fun q => [q]) (u8_of h20))) : (u8s o9.2) ++ [.int .u8 o9.1] = (u8s (o9.2 ++ [(UInt8.ofNat o9.1.toNat)]))) (ok1 ((by simp <;> omega) : (.vec 3 (o9.2.length + 1) 1 : AV) = .vec 3 ((o9.2 ++ [(UInt8.ofNat o9.1.toNat)]).length) 1))))))))))))))))
  · obtain ⟨h22, h⟩ := guard_some h
    obtain ⟨h23, h⟩ := guard_some h
    obtain ⟨o24, hl24, h⟩ := bind_some h
    obtain ⟨h35, h⟩ := guard_some h
    obtain ⟨h36, h⟩ := guard_some h
    obtain rfl := oI h
    exact Ret.of_view 400 (cs 2 ((.ret none [.any] (.vec 0 r1.length 1) [(bV (u8s r1) 5)]) :: (cs 3 (oa :: (.br false) :: oc :: ow :: ow :: oc :: (.fcut 0 (.exit 0) (tollwayref02_PutInt_L9_T o24) [(bV (u8s o24.2) 5)] [0] [(5, .any), (6, .any)] [bS]) :: (cs 2 [ow, oc, .op none (.ap 4), .tr (.eqc 3 (u8s (o24.2 ++ [(UInt8.ofNat o24.1.toNat)]))), .tr (.eqt (.t 35) (.vec 3 ((o24.2 ++ [(UInt8.ofNat o24.1.toNat)]).length) 1)), oc]))))) [3] (by kernel_rfl) (by kernel_rfl) (k2 (tollwayref02_Copy_ret b_0 r1 h2) (k2 (decide_eq_false c3) (k2 h22 (k2 h23 (k2 (tollwayref02_PutInt_L9_does (s := ((2 * n_1), r1)) (r := o24) hl24) (k2 h35 (k2 ((Nat.le_of_ble_eq_true rfl) : 0 + 1 ≤ List.length ([.int .u8 o24.1] : List AV)) (k2 (u8s_length : List.length ((u8s o24.2) : List AV) = o24.2.length) (k2 (rfl : List.all ([.int .u8 o24.1] : List AV) AV.one = true) (k2 h36 (k2 ((u8s_snoc (congrArg (fun q => [q]) (u8_of h35))) : (u8s o24.2) ++ [.int .u8 o24.1] = (u8s (o24.2 ++ [(UInt8.ofNat o24.1.toNat)]))) (ok1 ((by simp <;> omega) : (.vec 3 (o24.2.length + 1) 1 : AV) = .vec 3 ((o24.2 ++ [(UInt8.ofNat o24.1.toNat)]).length) 1)))))))))))))
noncomputable def tollwayref02_PutText_L3_step (s_1 : (List UInt8)) : (Nat × (List UInt8)) → Option ((Nat × (List UInt8)) ⊕ (List UInt8))
  | (k6, b0) =>
    if (↑k6 : Int) < (↑s_1.length : Int) then
      (s_1[k6]?).bind fun x10 =>
      if b0.length + 1 ≤ 4294967296 then
        if InR .i64 ((↑k6 : Int) + 1) then
          some (Sum.inl ((k6 + 1), (b0 ++ [x10])))
        else none
      else none
    else
      some (Sum.inr b0)
def tollwayref02_PutText_L3_H (s_1 : (List UInt8)) : (Nat × (List UInt8)) → St := fun (s : (Nat × (List UInt8))) => S 24 [(1, .str s_1), (5, .vec 0 s.2.length 1), (6, .int .i64 (↑s.1 : Int))] [(bV (u8s s.2) 5)]
def tollwayref02_PutText_L3_X (s_1 : (List UInt8)) : (List UInt8) → AEx := fun o => (.exit 0)
def tollwayref02_PutText_L3_T (s_1 : (List UInt8)) : (List UInt8) → List (Nat × AV) := fun o => [(5, .vec 0 o.length 1)]
def tollwayref02_PutText_L3_B (s_1 : (List UInt8)) : (List UInt8) → List Blk := fun o => [(bV (u8s o) 5)]
def tollwayref02_PutText_L3_E (s_1 : (List UInt8)) (q : (List UInt8)) : St := S 24 (tollwayref02_PutText_L3_T s_1 q) (tollwayref02_PutText_L3_B s_1 q)
theorem tollwayref02_PutText_L3_does (s_1 : (List UInt8)) {s : (Nat × (List UInt8))} {r : (List UInt8)} (h : lp (tollwayref02_PutText_L3_step s_1) s = some r) : Does Tryz.prog G0 0 (.loop (bodyAt Tryz.prog 50 [1, 1, 0, 1, 0, 0])) (tollwayref02_PutText_L3_H s_1 s) (tollwayref02_PutText_L3_X s_1 r) (tollwayref02_PutText_L3_E s_1 r) := by
  refine Does.lp (H := tollwayref02_PutText_L3_H s_1) (X := tollwayref02_PutText_L3_X s_1) (E := tollwayref02_PutText_L3_E s_1) (fun s s2 h => ?_) (fun s r h => ?_) h
  · obtain ⟨k6, b0⟩ := s
    unfold tollwayref02_PutText_L3_step at h
    try dsimp only at h
    rcases ite_some h with ⟨c9, h⟩ | ⟨c9, h⟩
    · obtain ⟨x10, h11, h⟩ := bind_some h
      obtain ⟨h12, h⟩ := guard_some h
      obtain ⟨h13, h⟩ := guard_some h
      obtain rfl := oL h
      exact Does.of_viewM 0 400 (cs 3 (oa :: (.br true) :: (cs 3 ((.op none (.i k6)) :: (.tr (.eqt (.t 20) (.int .u8 (x10.toNat : Int)))) :: oc :: (.op none (.ap 4)) :: (.tr (.eqc 2 (u8s (b0 ++ [x10])))) :: (.tr (.eqt (.t 22) (.vec 2 ((b0 ++ [x10]).length) 1))) :: (cs 2 [ow, oc]))))) [2] (by kernel_rfl) (by kernel_rfl) (k2 (decide_eq_true c9) (k2 (ir h11) (k2 ((getD_u8 h11) : (.int .u8 ((List.getD s_1 k6 0).toNat : Int) : AV) = .int .u8 (x10.toNat : Int)) (k2 ((Nat.le_of_ble_eq_true rfl) : 0 + 1 ≤ List.length ([.int .u8 (x10.toNat : Int)] : List AV)) (k2 (u8s_length : List.length ((u8s b0) : List AV) = b0.length) (k2 (rfl : List.all ([.int .u8 (x10.toNat : Int)] : List AV) AV.one = true) (k2 h12 (k2 ((u8s_snoc rfl) : (u8s b0) ++ [.int .u8 (x10.toNat : Int)] = (u8s (b0 ++ [x10]))) (k2 ((by simp <;> omega) : (.vec 2 (b0.length + 1) 1 : AV) = .vec 2 ((b0 ++ [x10]).length) 1) (ok1 h13))))))))))
    · simp at h
  · obtain ⟨k6, b0⟩ := s
    unfold tollwayref02_PutText_L3_step at h
    try dsimp only at h
    rcases ite_some h with ⟨c9, h⟩ | ⟨c9, h⟩
    · obtain ⟨x10, h11, h⟩ := bind_some h
      obtain ⟨h12, h⟩ := guard_some h
      obtain ⟨h13, h⟩ := guard_some h
      simp at h
    · obtain rfl := oR h
      exact ⟨Does.of_viewM 0 400 (cs 3 [oa, .br false]) [0] (by kernel_rfl) (by kernel_rfl) (ok1 (decide_eq_false c9)), by intro q; cases q⟩
noncomputable def tollwayref02_PutText (b_0 : (List UInt8)) (s_1 : (List UInt8)) : Option (List UInt8) :=
  (tollwayref02_PutInt b_0 (↑s_1.length : Int)).bind fun r1 =>
  (lp (tollwayref02_PutText_L3_step s_1) ((0 : Nat), r1)).bind fun o3 =>
  some o3
theorem tollwayref02_PutText_ret (b_0 : (List UInt8)) (s_1 : (List UInt8)) (r : (List UInt8)) (h : tollwayref02_PutText b_0 s_1 = some r) : Ret Tryz.prog G0 50 [.lst (u8s b_0) b_0.length, .str s_1] (.vec 0 r.length 1) [(bV (u8s r) 5)] := by
  unfold tollwayref02_PutText at h
  obtain ⟨r1, h2, h⟩ := bind_some h
  obtain ⟨o3, hl3, h⟩ := bind_some h
  obtain rfl := oI h
  exact Ret.of_view 400 (cs 4 ((.ret none [.any, .any] (.vec 0 r1.length 1) [(bV (u8s r1) 5)]) :: (cs 2 ((.fcut 0 (.exit 0) [(5, .vec 0 o3.length 1)] [(bV (u8s o3) 5)] [0] [(1, .any), (5, .any), (6, .int .i64 (↑(0 : Nat) : Int))] [bS]) :: (cs 2 []))))) [1] (by kernel_rfl) (by kernel_rfl) (k2 (tollwayref02_PutInt_ret b_0 (↑s_1.length : Int) r1 h2) (k2 (rfl : (.int .i64 0 : AV) = .int .i64 (↑(0 : Nat) : Int)) (ok1 (tollwayref02_PutText_L3_does s_1 (s := ((0 : Nat), r1)) (r := o3) hl3))))
noncomputable def tollwayref08_Hash_L1_step (b_0 : (List UInt8)) : (Int × Nat) → Option ((Int × Nat) ⊕ Int)
  | (v3, k4) =>
    if (↑k4 : Int) < (↑b_0.length : Int) then
      (b_0[k4]?).bind fun x10 =>
      if InR .u64 ((x10.toNat : Int)) then
        (some (IntKind.wrap .u64 ((BitVec.ofInt (IntKind.bits .u64) v3 ^^^ BitVec.ofInt (IntKind.bits .u64) (x10.toNat : Int)).toNat : Int))).bind fun y13 =>
        if InR .i64 ((↑k4 : Int) + 1) then
          some (Sum.inl ((IntKind.wrap .u64 (y13 * 1099511628211)), (k4 + 1)))
        else none
      else none
    else
      some (Sum.inr v3)
def tollwayref08_Hash_L1_H (b_0 : (List UInt8)) : (Int × Nat) → St := fun (s : (Int × Nat)) => S 20 [(0, .lst (u8s b_0) b_0.length), (3, .int .u64 s.1), (4, .int .i64 (↑s.2 : Int))] []
def tollwayref08_Hash_L1_X (b_0 : (List UInt8)) : Int → AEx := fun o => (.exit 0)
def tollwayref08_Hash_L1_T (b_0 : (List UInt8)) : Int → List (Nat × AV) := fun o => [(3, .int .u64 o)]
def tollwayref08_Hash_L1_B (b_0 : (List UInt8)) : Int → List Blk := fun o => []
def tollwayref08_Hash_L1_E (b_0 : (List UInt8)) (q : Int) : St := S 20 (tollwayref08_Hash_L1_T b_0 q) (tollwayref08_Hash_L1_B b_0 q)
theorem tollwayref08_Hash_L1_does (b_0 : (List UInt8)) {s : (Int × Nat)} {r : Int} (h : lp (tollwayref08_Hash_L1_step b_0) s = some r) : Does Tryz.prog G0 0 (.loop (bodyAt Tryz.prog 24 [1, 1, 0, 1, 0, 0])) (tollwayref08_Hash_L1_H b_0 s) (tollwayref08_Hash_L1_X b_0 r) (tollwayref08_Hash_L1_E b_0 r) := by
  refine Does.lp (H := tollwayref08_Hash_L1_H b_0) (X := tollwayref08_Hash_L1_X b_0) (E := tollwayref08_Hash_L1_E b_0) (fun s s2 h => ?_) (fun s r h => ?_) h
  · obtain ⟨v3, k4⟩ := s
    unfold tollwayref08_Hash_L1_step at h
    try dsimp only at h
    rcases ite_some h with ⟨c9, h⟩ | ⟨c9, h⟩
    · obtain ⟨x10, h11, h⟩ := bind_some h
      obtain ⟨h12, h⟩ := guard_some h
      obtain ⟨y13, h14, h⟩ := bind_some h
      obtain ⟨h15, h⟩ := guard_some h
      obtain rfl := oL h
      exact Does.of_viewM 0 400 (cs 3 (oa :: (.br true) :: (cs 3 ((.op none (.i k4)) :: (.op none (.v [.int .u8 (x10.toNat : Int)])) :: ow :: oa :: (.tr (.eqt (.t 17) (.int .u64 y13))) :: oa :: (cs 2 [ow, oc]))))) [] (by kernel_rfl) (by kernel_rfl) (k2 (decide_eq_true c9) (k2 (ir h11) (k2 ((u8s_ne h11) : (u8s b_0) ≠ []) (k2 ((u8s_sub1 h11) : sub (u8s b_0) k4 1 = [.int .u8 (x10.toNat : Int)]) (k2 h12 (k2 ((congrArg _ (Option.some.inj h14)) : (.int .u64 (IntKind.wrap .u64 ((BitVec.ofInt (IntKind.bits .u64) v3 ^^^ BitVec.ofInt (IntKind.bits .u64) (x10.toNat : Int)).toNat : Int)) : AV) = .int .u64 y13) (ok1 h15)))))))
    · simp at h
  · obtain ⟨v3, k4⟩ := s
    unfold tollwayref08_Hash_L1_step at h
    try dsimp only at h
    rcases ite_some h with ⟨c9, h⟩ | ⟨c9, h⟩
    · obtain ⟨x10, h11, h⟩ := bind_some h
      obtain ⟨h12, h⟩ := guard_some h
      obtain ⟨y13, h14, h⟩ := bind_some h
      obtain ⟨h15, h⟩ := guard_some h
      simp at h
    · obtain rfl := oR h
      exact ⟨Does.of_viewM 0 400 (cs 3 [oa, .br false]) [] (by kernel_rfl) (by kernel_rfl) (ok1 (decide_eq_false c9)), by intro q; cases q⟩
noncomputable def tollwayref08_Hash (b_0 : (List UInt8)) : Option Int :=
  (lp (tollwayref08_Hash_L1_step b_0) ((14695981039346656037 : Int), (0 : Nat))).bind fun o1 =>
  some o1
theorem tollwayref08_Hash_ret (b_0 : (List UInt8)) (r : Int) (h : tollwayref08_Hash b_0 = some r) : Ret Tryz.prog G0 24 [.lst (u8s b_0) b_0.length] (.int .u64 r) [] := by
  unfold tollwayref08_Hash at h
  obtain ⟨o1, hl1, h⟩ := bind_some h
  obtain rfl := oI h
  exact Ret.of_view 400 (cs 3 ((.fcut 0 (.exit 0) [(3, .int .u64 o1)] [] [] [(0, .any), (3, .int .u64 (14695981039346656037 : Int)), (4, .int .i64 (↑(0 : Nat) : Int))] []) :: (cs 2 []))) [] (by kernel_rfl) (by kernel_rfl) (k2 (rfl : (.int .u64 14695981039346656037 : AV) = .int .u64 (14695981039346656037 : Int)) (k2 (rfl : (.int .i64 0 : AV) = .int .i64 (↑(0 : Nat) : Int)) (ok1 (tollwayref08_Hash_L1_does b_0 (s := ((14695981039346656037 : Int), (0 : Nat))) (r := o1) hl1))))
noncomputable def tollwayref08_Join (a_0 : Int) (b_1 : Int) : Option Int :=
  if InR .u64 (Int.tdiv a_0 72057594037927936) then
    if InR .u8 (Int.tmod (Int.tdiv a_0 72057594037927936) 256) then
      if InR .u64 (Int.tdiv a_0 281474976710656) then
        if InR .u8 (Int.tmod (Int.tdiv a_0 281474976710656) 256) then
          if InR .u64 (Int.tdiv a_0 1099511627776) then
            if InR .u8 (Int.tmod (Int.tdiv a_0 1099511627776) 256) then
              if InR .u64 (Int.tdiv a_0 4294967296) then
                if InR .u8 (Int.tmod (Int.tdiv a_0 4294967296) 256) then
                  if InR .u64 (Int.tdiv a_0 16777216) then
                    if InR .u8 (Int.tmod (Int.tdiv a_0 16777216) 256) then
                      if InR .u64 (Int.tdiv a_0 65536) then
                        if InR .u8 (Int.tmod (Int.tdiv a_0 65536) 256) then
                          if InR .u64 (Int.tdiv a_0 256) then
                            if InR .u8 (Int.tmod (Int.tdiv a_0 256) 256) then
                              if InR .u64 (Int.tdiv a_0 1) then
                                if InR .u8 (Int.tmod (Int.tdiv a_0 1) 256) then
                                  if InR .u64 (Int.tdiv b_1 72057594037927936) then
                                    if InR .u8 (Int.tmod (Int.tdiv b_1 72057594037927936) 256) then
                                      if InR .u64 (Int.tdiv b_1 281474976710656) then
                                        if InR .u8 (Int.tmod (Int.tdiv b_1 281474976710656) 256) then
                                          if InR .u64 (Int.tdiv b_1 1099511627776) then
                                            if InR .u8 (Int.tmod (Int.tdiv b_1 1099511627776) 256) then
                                              if InR .u64 (Int.tdiv b_1 4294967296) then
                                                if InR .u8 (Int.tmod (Int.tdiv b_1 4294967296) 256) then
                                                  if InR .u64 (Int.tdiv b_1 16777216) then
                                                    if InR .u8 (Int.tmod (Int.tdiv b_1 16777216) 256) then
                                                      if InR .u64 (Int.tdiv b_1 65536) then
                                                        if InR .u8 (Int.tmod (Int.tdiv b_1 65536) 256) then
                                                          if InR .u64 (Int.tdiv b_1 256) then
                                                            if InR .u8 (Int.tmod (Int.tdiv b_1 256) 256) then
                                                              if InR .u64 (Int.tdiv b_1 1) then
                                                                if InR .u8 (Int.tmod (Int.tdiv b_1 1) 256) then
                                                                  (tollwayref08_Hash ([(UInt8.ofNat (Int.toNat (Int.tmod (Int.tdiv a_0 72057594037927936) 256))), (UInt8.ofNat (Int.toNat (Int.tmod (Int.tdiv a_0 281474976710656) 256))), (UInt8.ofNat (Int.toNat (Int.tmod (Int.tdiv a_0 1099511627776) 256))), (UInt8.ofNat (Int.toNat (Int.tmod (Int.tdiv a_0 4294967296) 256))), (UInt8.ofNat (Int.toNat (Int.tmod (Int.tdiv a_0 16777216) 256))), (UInt8.ofNat (Int.toNat (Int.tmod (Int.tdiv a_0 65536) 256))), (UInt8.ofNat (Int.toNat (Int.tmod (Int.tdiv a_0 256) 256))), (UInt8.ofNat (Int.toNat (Int.tmod (Int.tdiv a_0 1) 256))), (UInt8.ofNat (Int.toNat (Int.tmod (Int.tdiv b_1 72057594037927936) 256))), (UInt8.ofNat (Int.toNat (Int.tmod (Int.tdiv b_1 281474976710656) 256))), (UInt8.ofNat (Int.toNat (Int.tmod (Int.tdiv b_1 1099511627776) 256))), (UInt8.ofNat (Int.toNat (Int.tmod (Int.tdiv b_1 4294967296) 256))), (UInt8.ofNat (Int.toNat (Int.tmod (Int.tdiv b_1 16777216) 256))), (UInt8.ofNat (Int.toNat (Int.tmod (Int.tdiv b_1 65536) 256))), (UInt8.ofNat (Int.toNat (Int.tmod (Int.tdiv b_1 256) 256))), (UInt8.ofNat (Int.toNat (Int.tmod (Int.tdiv b_1 1) 256)))] : List UInt8)).bind fun r33 =>
                                                                  some r33
                                                                else none
                                                              else none
                                                            else none
                                                          else none
                                                        else none
                                                      else none
                                                    else none
                                                  else none
                                                else none
                                              else none
                                            else none
                                          else none
                                        else none
                                      else none
                                    else none
                                  else none
                                else none
                              else none
                            else none
                          else none
                        else none
                      else none
                    else none
                  else none
                else none
              else none
            else none
          else none
        else none
      else none
    else none
  else none
theorem tollwayref08_Join_ret (a_0 : Int) (b_1 : Int) (r : Int) (h : tollwayref08_Join a_0 b_1 = some r) : Ret Tryz.prog G0 125 [.int .u64 a_0, .int .u64 b_1] (.int .u64 r) [] := by
  unfold tollwayref08_Join at h
  obtain ⟨h1, h⟩ := guard_some h
  obtain ⟨h2, h⟩ := guard_some h
  obtain ⟨h3, h⟩ := guard_some h
  obtain ⟨h4, h⟩ := guard_some h
  obtain ⟨h5, h⟩ := guard_some h
  obtain ⟨h6, h⟩ := guard_some h
  obtain ⟨h7, h⟩ := guard_some h
  obtain ⟨h8, h⟩ := guard_some h
  obtain ⟨h9, h⟩ := guard_some h
  obtain ⟨h10, h⟩ := guard_some h
  obtain ⟨h11, h⟩ := guard_some h
  obtain ⟨h12, h⟩ := guard_some h
  obtain ⟨h13, h⟩ := guard_some h
  obtain ⟨h14, h⟩ := guard_some h
  obtain ⟨h15, h⟩ := guard_some h
  obtain ⟨h16, h⟩ := guard_some h
  obtain ⟨h17, h⟩ := guard_some h
  obtain ⟨h18, h⟩ := guard_some h
  obtain ⟨h19, h⟩ := guard_some h
  obtain ⟨h20, h⟩ := guard_some h
  obtain ⟨h21, h⟩ := guard_some h
  obtain ⟨h22, h⟩ := guard_some h
  obtain ⟨h23, h⟩ := guard_some h
  obtain ⟨h24, h⟩ := guard_some h
  obtain ⟨h25, h⟩ := guard_some h
  obtain ⟨h26, h⟩ := guard_some h
  obtain ⟨h27, h⟩ := guard_some h
  obtain ⟨h28, h⟩ := guard_some h
  obtain ⟨h29, h⟩ := guard_some h
  obtain ⟨h30, h⟩ := guard_some h
  obtain ⟨h31, h⟩ := guard_some h
  obtain ⟨h32, h⟩ := guard_some h
  obtain ⟨r33, h34, h⟩ := bind_some h
  obtain rfl := oI h
  exact Ret.of_view 400 (cs 8 ((.br true) :: (cs 3 (ow :: oa :: ow :: oc :: (.op none (.ap 2)) :: (cs 9 ((.br true) :: (cs 3 (ow :: oa :: ow :: oc :: (.op none (.ap 3)) :: (cs 9 ((.br true) :: (cs 3 (ow :: oa :: ow :: oc :: (.op none (.ap 3)) :: (cs 9 ((.br true) :: (cs 3 (ow :: oa :: ow :: oc :: (.op none (.ap 3)) :: (cs 9 ((.br true) :: (cs 3 (ow :: oa :: ow :: oc :: (.op none (.ap 3)) :: (cs 9 ((.br true) :: (cs 3 (ow :: oa :: ow :: oc :: (.op none (.ap 3)) :: (cs 9 ((.br true) :: (cs 3 (ow :: oa :: ow :: oc :: (.op none (.ap 3)) :: (cs 9 ((.br true) :: (cs 3 (ow :: oa :: ow :: oc :: (.op none (.ap 3)) :: (cs 9 ((.br false) :: (cs 9 ((.br true) :: (cs 3 (ow :: oa :: ow :: oc :: (.op none (.ap 3)) :: (cs 9 ((.br true) :: (cs 3 (ow :: oa :: ow :: oc :: (.op none (.ap 3)) :: (cs 9 ((.br true) :: (cs 3 (ow :: oa :: ow :: oc :: (.op none (.ap 3)) :: (cs 9 ((.br true) :: (cs 3 (ow :: oa :: ow :: oc :: (.op none (.ap 3)) :: (cs 9 ((.br true) :: (cs 3 (ow :: oa :: ow :: oc :: (.op none (.ap 3)) :: (cs 9 ((.br true) :: (cs 3 (ow :: oa :: ow :: oc :: (.op none (.ap 3)) :: (cs 9 ((.br true) :: (cs 3 (ow :: oa :: ow :: oc :: (.op none (.ap 3)) :: (cs 9 ((.br true) :: (cs 3 (ow :: oa :: ow :: oc :: (.op none (.ap 3)) :: (cs 9 ((.br false) :: (cs 2 [.tr (.eqc 31 (u8s ([(UInt8.ofNat (Int.toNat (Int.tmod (Int.tdiv a_0 72057594037927936) 256))), (UInt8.ofNat (Int.toNat (Int.tmod (Int.tdiv a_0 281474976710656) 256))), (UInt8.ofNat (Int.toNat (Int.tmod (Int.tdiv a_0 1099511627776) 256))), (UInt8.ofNat (Int.toNat (Int.tmod (Int.tdiv a_0 4294967296) 256))), (UInt8.ofNat (Int.toNat (Int.tmod (Int.tdiv a_0 16777216) 256))), (UInt8.ofNat (Int.toNat (Int.tmod (Int.tdiv a_0 65536) 256))), (UInt8.ofNat (Int.toNat (Int.tmod (Int.tdiv a_0 256) 256))), (UInt8.ofNat (Int.toNat (Int.tmod (Int.tdiv a_0 1) 256))), (UInt8.ofNat (Int.toNat (Int.tmod (Int.tdiv b_1 72057594037927936) 256))), (UInt8.ofNat (Int.toNat (Int.tmod (Int.tdiv b_1 281474976710656) 256))), (UInt8.ofNat (Int.toNat (Int.tmod (Int.tdiv b_1 1099511627776) 256))), (UInt8.ofNat (Int.toNat (Int.tmod (Int.tdiv b_1 4294967296) 256))), (UInt8.ofNat (Int.toNat (Int.tmod (Int.tdiv b_1 16777216) 256))), (UInt8.ofNat (Int.toNat (Int.tmod (Int.tdiv b_1 65536) 256))), (UInt8.ofNat (Int.toNat (Int.tmod (Int.tdiv b_1 256) 256))), (UInt8.ofNat (Int.toNat (Int.tmod (Int.tdiv b_1 1) 256)))] : List UInt8))), .ret none [.lst (u8s ([(UInt8.ofNat (Int.toNat (Int.tmod (Int.tdiv a_0 72057594037927936) 256))), (UInt8.ofNat (Int.toNat (Int.tmod (Int.tdiv a_0 281474976710656) 256))), (UInt8.ofNat (Int.toNat (Int.tmod (Int.tdiv a_0 1099511627776) 256))), (UInt8.ofNat (Int.toNat (Int.tmod (Int.tdiv a_0 4294967296) 256))), (UInt8.ofNat (Int.toNat (Int.tmod (Int.tdiv a_0 16777216) 256))), (UInt8.ofNat (Int.toNat (Int.tmod (Int.tdiv a_0 65536) 256))), (UInt8.ofNat (Int.toNat (Int.tmod (Int.tdiv a_0 256) 256))), (UInt8.ofNat (Int.toNat (Int.tmod (Int.tdiv a_0 1) 256))), (UInt8.ofNat (Int.toNat (Int.tmod (Int.tdiv b_1 72057594037927936) 256))), (UInt8.ofNat (Int.toNat (Int.tmod (Int.tdiv b_1 281474976710656) 256))), (UInt8.ofNat (Int.toNat (Int.tmod (Int.tdiv b_1 1099511627776) 256))), (UInt8.ofNat (Int.toNat (Int.tmod (Int.tdiv b_1 4294967296) 256))), (UInt8.ofNat (Int.toNat (Int.tmod (Int.tdiv b_1 16777216) 256))), (UInt8.ofNat (Int.toNat (Int.tmod (Int.tdiv b_1 65536) 256))), (UInt8.ofNat (Int.toNat (Int.tmod (Int.tdiv b_1 256) 256))), (UInt8.ofNat (Int.toNat (Int.tmod (Int.tdiv b_1 1) 256)))] : List UInt8)) 16] (.int .u64 r33) [], oc]))))))))))))))))))))))))))))))))))))))))))))))))))))))))))))))))))))) [] (by kernel_rfl) (by kernel_rfl) (k2 (rfl : true = true) (k2 ((by decide) : 72057594037927936 ≠ (0 : Int)) (k2 h1 (k2 ((by decide) : 256 ≠ (0 : Int)) (k2 h2 (k2 ((Nat.le_of_ble_eq_true rfl) : 0 + 1 ≤ List.length ([.int .u8 (Int.tmod (Int.tdiv a_0 72057594037927936) 256)] : List AV)) (k2 ((by decide) : 0 < 1) (k2 ((by decide) : 1 ≤ 4294967296) (k2 (rfl : true = true) (k2 ((by decide) : 281474976710656 ≠ (0 : Int)) (k2 h3 (k2 ((by decide) : 256 ≠ (0 : Int)) (k2 h4 (k2 ((Nat.le_of_ble_eq_true rfl) : 0 + 1 ≤ List.length ([.int .u8 (Int.tmod (Int.tdiv a_0 281474976710656) 256)] : List AV)) (k2 ((by decide) : 0 < 1) (k2 (rfl : List.length ([.int .u8 (Int.tmod (Int.tdiv a_0 72057594037927936) 256)] : List AV) = 1) (k2 ((by simp [AV.one]) : List.all ([.int .u8 (Int.tmod (Int.tdiv a_0 281474976710656) 256)] : List AV) AV.one = true) (k2 ((by decide) : 1 + 1 ≤ 4294967296) (k2 (rfl : true = true) (k2 ((by decide) : 1099511627776 ≠ (0 : Int)) (k2 h5 (k2 ((by decide) : 256 ≠ (0 : Int)) (k2 h6 (k2 ((Nat.le_of_ble_eq_true rfl) : 0 + 1 ≤ List.length ([.int .u8 (Int.tmod (Int.tdiv a_0 1099511627776) 256)] : List AV)) (k2 ((by decide) : 0 < 1) (k2 (rfl : List.length ([.int .u8 (Int.tmod (Int.tdiv a_0 72057594037927936) 256), .int .u8 (Int.tmod (Int.tdiv a_0 281474976710656) 256)] : List AV) = 2) (k2 ((by simp [AV.one]) : List.all ([.int .u8 (Int.tmod (Int.tdiv a_0 1099511627776) 256)] : List AV) AV.one = true) (k2 ((by decide) : 2 + 1 ≤ 4294967296) (k2 (rfl : true = true) (k2 ((by decide) : 4294967296 ≠ (0 : Int)) (k2 h7 (k2 ((by decide) : 256 ≠ (0 : Int)) (k2 h8 (k2 ((Nat.le_of_ble_eq_true rfl) : 0 + 1 ≤ List.length ([.int .u8 (Int.tmod (Int.tdiv a_0 4294967296) 256)] : List AV)) (k2 ((by decide) : 0 < 1) (k2 (rfl : List.length ([.int .u8 (Int.tmod (Int.tdiv a_0 72057594037927936) 256), .int .u8 (Int.tmod (Int.tdiv a_0 281474976710656) 256), .int .u8 (Int.tmod (Int.tdiv a_0 1099511627776) 256)] : List AV) = 3) (k2 ((by simp [AV.one]) : List.all ([.int .u8 (Int.tmod (Int.tdiv a_0 4294967296) 256)] : List AV) AV.one = true) (k2 ((by decide) : 3 + 1 ≤ 4294967296) (k2 (rfl : true = true) (k2 ((by decide) : 16777216 ≠ (0 : Int)) (k2 h9 (k2 ((by decide) : 256 ≠ (0 : Int)) (k2 h10 (k2 ((Nat.le_of_ble_eq_true rfl) : 0 + 1 ≤ List.length ([.int .u8 (Int.tmod (Int.tdiv a_0 16777216) 256)] : List AV)) (k2 ((by decide) : 0 < 1) (k2 (rfl : List.length ([.int .u8 (Int.tmod (Int.tdiv a_0 72057594037927936) 256), .int .u8 (Int.tmod (Int.tdiv a_0 281474976710656) 256), .int .u8 (Int.tmod (Int.tdiv a_0 1099511627776) 256), .int .u8 (Int.tmod (Int.tdiv a_0 4294967296) 256)] : List AV) = 4) (k2 ((by simp [AV.one]) : List.all ([.int .u8 (Int.tmod (Int.tdiv a_0 16777216) 256)] : List AV) AV.one = true) (k2 ((by decide) : 4 + 1 ≤ 4294967296) (k2 (rfl : true = true) (k2 ((by decide) : 65536 ≠ (0 : Int)) (k2 h11 (k2 ((by decide) : 256 ≠ (0 : Int)) (k2 h12 (k2 ((Nat.le_of_ble_eq_true rfl) : 0 + 1 ≤ List.length ([.int .u8 (Int.tmod (Int.tdiv a_0 65536) 256)] : List AV)) (k2 ((by decide) : 0 < 1) (k2 (rfl : List.length ([.int .u8 (Int.tmod (Int.tdiv a_0 72057594037927936) 256), .int .u8 (Int.tmod (Int.tdiv a_0 281474976710656) 256), .int .u8 (Int.tmod (Int.tdiv a_0 1099511627776) 256), .int .u8 (Int.tmod (Int.tdiv a_0 4294967296) 256), .int .u8 (Int.tmod (Int.tdiv a_0 16777216) 256)] : List AV) = 5) (k2 ((by simp [AV.one]) : List.all ([.int .u8 (Int.tmod (Int.tdiv a_0 65536) 256)] : List AV) AV.one = true) (k2 ((by decide) : 5 + 1 ≤ 4294967296) (k2 (rfl : true = true) (k2 ((by decide) : 256 ≠ (0 : Int)) (k2 h13 (k2 ((by decide) : 256 ≠ (0 : Int)) (k2 h14 (k2 ((Nat.le_of_ble_eq_true rfl) : 0 + 1 ≤ List.length ([.int .u8 (Int.tmod (Int.tdiv a_0 256) 256)] : List AV)) (k2 ((by decide) : 0 < 1) (k2 (rfl : List.length ([.int .u8 (Int.tmod (Int.tdiv a_0 72057594037927936) 256), .int .u8 (Int.tmod (Int.tdiv a_0 281474976710656) 256), .int .u8 (Int.tmod (Int.tdiv a_0 1099511627776) 256), .int .u8 (Int.tmod (Int.tdiv a_0 4294967296) 256), .int .u8 (Int.tmod (Int.tdiv a_0 16777216) 256), .int .u8 (Int.tmod (Int.tdiv a_0 65536) 256)] : List AV) = 6) (k2 ((by simp [AV.one]) : List.all ([.int .u8 (Int.tmod (Int.tdiv a_0 256) 256)] : List AV) AV.one = true) (k2 ((by decide) : 6 + 1 ≤ 4294967296) (k2 (rfl : true = true) (k2 ((by decide) : 1 ≠ (0 : Int)) (k2 h15 (k2 ((by decide) : 256 ≠ (0 : Int)) (k2 h16 (k2 ((Nat.le_of_ble_eq_true rfl) : 0 + 1 ≤ List.length ([.int .u8 (Int.tmod (Int.tdiv a_0 1) 256)] : List AV)) (k2 ((by decide) : 0 < 1) (k2 (rfl : List.length ([.int .u8 (Int.tmod (Int.tdiv a_0 72057594037927936) 256), .int .u8 (Int.tmod (Int.tdiv a_0 281474976710656) 256), .int .u8 (Int.tmod (Int.tdiv a_0 1099511627776) 256), .int .u8 (Int.tmod (Int.tdiv a_0 4294967296) 256), .int .u8 (Int.tmod (Int.tdiv a_0 16777216) 256), .int .u8 (Int.tmod (Int.tdiv a_0 65536) 256), .int .u8 (Int.tmod (Int.tdiv a_0 256) 256)] : List AV) = 7) (k2 ((by simp [AV.one]) : List.all ([.int .u8 (Int.tmod (Int.tdiv a_0 1) 256)] : List AV) AV.one = true) (k2 ((by decide) : 7 + 1 ≤ 4294967296) (k2 (rfl : false = false) (k2 (rfl : true = true) (k2 ((by decide) : 72057594037927936 ≠ (0 : Int)) (k2 h17 (k2 ((by decide) : 256 ≠ (0 : Int)) (k2 h18 (k2 ((Nat.le_of_ble_eq_true rfl) : 0 + 1 ≤ List.length ([.int .u8 (Int.tmod (Int.tdiv b_1 72057594037927936) 256)] : List AV)) (k2 ((by decide) : 0 < 1) (k2 (rfl : List.length ([.int .u8 (Int.tmod (Int.tdiv a_0 72057594037927936) 256), .int .u8 (Int.tmod (Int.tdiv a_0 281474976710656) 256), .int .u8 (Int.tmod (Int.tdiv a_0 1099511627776) 256), .int .u8 (Int.tmod (Int.tdiv a_0 4294967296) 256), .int .u8 (Int.tmod (Int.tdiv a_0 16777216) 256), .int .u8 (Int.tmod (Int.tdiv a_0 65536) 256), .int .u8 (Int.tmod (Int.tdiv a_0 256) 256), .int .u8 (Int.tmod (Int.tdiv a_0 1) 256)] : List AV) = 8) (k2 ((by simp [AV.one]) : List.all ([.int .u8 (Int.tmod (Int.tdiv b_1 72057594037927936) 256)] : List AV) AV.one = true) (k2 ((by decide) : 8 + 1 ≤ 4294967296) (k2 (rfl : true = true) (k2 ((by decide) : 281474976710656 ≠ (0 : Int)) (k2 h19 (k2 ((by decide) : 256 ≠ (0 : Int)) (k2 h20 (k2 ((Nat.le_of_ble_eq_true rfl) : 0 + 1 ≤ List.length ([.int .u8 (Int.tmod (Int.tdiv b_1 281474976710656) 256)] : List AV)) (k2 ((by decide) : 0 < 1) (k2 (rfl : List.length ([.int .u8 (Int.tmod (Int.tdiv a_0 72057594037927936) 256), .int .u8 (Int.tmod (Int.tdiv a_0 281474976710656) 256), .int .u8 (Int.tmod (Int.tdiv a_0 1099511627776) 256), .int .u8 (Int.tmod (Int.tdiv a_0 4294967296) 256), .int .u8 (Int.tmod (Int.tdiv a_0 16777216) 256), .int .u8 (Int.tmod (Int.tdiv a_0 65536) 256), .int .u8 (Int.tmod (Int.tdiv a_0 256) 256), .int .u8 (Int.tmod (Int.tdiv a_0 1) 256), .int .u8 (Int.tmod (Int.tdiv b_1 72057594037927936) 256)] : List AV) = 9) (k2 ((by simp [AV.one]) : List.all ([.int .u8 (Int.tmod (Int.tdiv b_1 281474976710656) 256)] : List AV) AV.one = true) (k2 ((by decide) : 9 + 1 ≤ 4294967296) (k2 (rfl : true = true) (k2 ((by decide) : 1099511627776 ≠ (0 : Int)) (k2 h21 (k2 ((by decide) : 256 ≠ (0 : Int)) (k2 h22 (k2 ((Nat.le_of_ble_eq_true rfl) : 0 + 1 ≤ List.length ([.int .u8 (Int.tmod (Int.tdiv b_1 1099511627776) 256)] : List AV)) (k2 ((by decide) : 0 < 1) (k2 (rfl : List.length ([.int .u8 (Int.tmod (Int.tdiv a_0 72057594037927936) 256), .int .u8 (Int.tmod (Int.tdiv a_0 281474976710656) 256), .int .u8 (Int.tmod (Int.tdiv a_0 1099511627776) 256), .int .u8 (Int.tmod (Int.tdiv a_0 4294967296) 256), .int .u8 (Int.tmod (Int.tdiv a_0 16777216) 256), .int .u8 (Int.tmod (Int.tdiv a_0 65536) 256), .int .u8 (Int.tmod (Int.tdiv a_0 256) 256), .int .u8 (Int.tmod (Int.tdiv a_0 1) 256), .int .u8 (Int.tmod (Int.tdiv b_1 72057594037927936) 256), .int .u8 (Int.tmod (Int.tdiv b_1 281474976710656) 256)] : List AV) = 10) (k2 ((by simp [AV.one]) : List.all ([.int .u8 (Int.tmod (Int.tdiv b_1 1099511627776) 256)] : List AV) AV.one = true) (k2 ((by decide) : 10 + 1 ≤ 4294967296) (k2 (rfl : true = true) (k2 ((by decide) : 4294967296 ≠ (0 : Int)) (k2 h23 (k2 ((by decide) : 256 ≠ (0 : Int)) (k2 h24 (k2 ((Nat.le_of_ble_eq_true rfl) : 0 + 1 ≤ List.length ([.int .u8 (Int.tmod (Int.tdiv b_1 4294967296) 256)] : List AV)) (k2 ((by decide) : 0 < 1) (k2 (rfl : List.length ([.int .u8 (Int.tmod (Int.tdiv a_0 72057594037927936) 256), .int .u8 (Int.tmod (Int.tdiv a_0 281474976710656) 256), .int .u8 (Int.tmod (Int.tdiv a_0 1099511627776) 256), .int .u8 (Int.tmod (Int.tdiv a_0 4294967296) 256), .int .u8 (Int.tmod (Int.tdiv a_0 16777216) 256), .int .u8 (Int.tmod (Int.tdiv a_0 65536) 256), .int .u8 (Int.tmod (Int.tdiv a_0 256) 256), .int .u8 (Int.tmod (Int.tdiv a_0 1) 256), .int .u8 (Int.tmod (Int.tdiv b_1 72057594037927936) 256), .int .u8 (Int.tmod (Int.tdiv b_1 281474976710656) 256), .int .u8 (Int.tmod (Int.tdiv b_1 1099511627776) 256)] : List AV) = 11) (k2 ((by simp [AV.one]) : List.all ([.int .u8 (Int.tmod (Int.tdiv b_1 4294967296) 256)] : List AV) AV.one = true) (k2 ((by decide) : 11 + 1 ≤ 4294967296) (k2 (rfl : true = true) (k2 ((by decide) : 16777216 ≠ (0 : Int)) (k2 h25 (k2 ((by decide) : 256 ≠ (0 : Int)) (k2 h26 (k2 ((Nat.le_of_ble_eq_true rfl) : 0 + 1 ≤ List.length ([.int .u8 (Int.tmod (Int.tdiv b_1 16777216) 256)] : List AV)) (k2 ((by decide) : 0 < 1) (k2 (rfl : List.length ([.int .u8 (Int.tmod (Int.tdiv a_0 72057594037927936) 256), .int .u8 (Int.tmod (Int.tdiv a_0 281474976710656) 256), .int .u8 (Int.tmod (Int.tdiv a_0 1099511627776) 256), .int .u8 (Int.tmod (Int.tdiv a_0 4294967296) 256), .int .u8 (Int.tmod (Int.tdiv a_0 16777216) 256), .int .u8 (Int.tmod (Int.tdiv a_0 65536) 256), .int .u8 (Int.tmod (Int.tdiv a_0 256) 256), .int .u8 (Int.tmod (Int.tdiv a_0 1) 256), .int .u8 (Int.tmod (Int.tdiv b_1 72057594037927936) 256), .int .u8 (Int.tmod (Int.tdiv b_1 281474976710656) 256), .int .u8 (Int.tmod (Int.tdiv b_1 1099511627776) 256), .int .u8 (Int.tmod (Int.tdiv b_1 4294967296) 256)] : List AV) = 12) (k2 ((by simp [AV.one]) : List.all ([.int .u8 (Int.tmod (Int.tdiv b_1 16777216) 256)] : List AV) AV.one = true) (k2 ((by decide) : 12 + 1 ≤ 4294967296) (k2 (rfl : true = true) (k2 ((by decide) : 65536 ≠ (0 : Int)) (k2 h27 (k2 ((by decide) : 256 ≠ (0 : Int)) (k2 h28 (k2 ((Nat.le_of_ble_eq_true rfl) : 0 + 1 ≤ List.length ([.int .u8 (Int.tmod (Int.tdiv b_1 65536) 256)] : List AV)) (k2 ((by decide) : 0 < 1) (k2 (rfl : List.length ([.int .u8 (Int.tmod (Int.tdiv a_0 72057594037927936) 256), .int .u8 (Int.tmod (Int.tdiv a_0 281474976710656) 256), .int .u8 (Int.tmod (Int.tdiv a_0 1099511627776) 256), .int .u8 (Int.tmod (Int.tdiv a_0 4294967296) 256), .int .u8 (Int.tmod (Int.tdiv a_0 16777216) 256), .int .u8 (Int.tmod (Int.tdiv a_0 65536) 256), .int .u8 (Int.tmod (Int.tdiv a_0 256) 256), .int .u8 (Int.tmod (Int.tdiv a_0 1) 256), .int .u8 (Int.tmod (Int.tdiv b_1 72057594037927936) 256), .int .u8 (Int.tmod (Int.tdiv b_1 281474976710656) 256), .int .u8 (Int.tmod (Int.tdiv b_1 1099511627776) 256), .int .u8 (Int.tmod (Int.tdiv b_1 4294967296) 256), .int .u8 (Int.tmod (Int.tdiv b_1 16777216) 256)] : List AV) = 13) (k2 ((by simp [AV.one]) : List.all ([.int .u8 (Int.tmod (Int.tdiv b_1 65536) 256)] : List AV) AV.one = true) (k2 ((by decide) : 13 + 1 ≤ 4294967296) (k2 (rfl : true = true) (k2 ((by decide) : 256 ≠ (0 : Int)) (k2 h29 (k2 ((by decide) : 256 ≠ (0 : Int)) (k2 h30 (k2 ((Nat.le_of_ble_eq_true rfl) : 0 + 1 ≤ List.length ([.int .u8 (Int.tmod (Int.tdiv b_1 256) 256)] : List AV)) (k2 ((by decide) : 0 < 1) (k2 (rfl : List.length ([.int .u8 (Int.tmod (Int.tdiv a_0 72057594037927936) 256), .int .u8 (Int.tmod (Int.tdiv a_0 281474976710656) 256), .int .u8 (Int.tmod (Int.tdiv a_0 1099511627776) 256), .int .u8 (Int.tmod (Int.tdiv a_0 4294967296) 256), .int .u8 (Int.tmod (Int.tdiv a_0 16777216) 256), .int .u8 (Int.tmod (Int.tdiv a_0 65536) 256), .int .u8 (Int.tmod (Int.tdiv a_0 256) 256), .int .u8 (Int.tmod (Int.tdiv a_0 1) 256), .int .u8 (Int.tmod (Int.tdiv b_1 72057594037927936) 256), .int .u8 (Int.tmod (Int.tdiv b_1 281474976710656) 256), .int .u8 (Int.tmod (Int.tdiv b_1 1099511627776) 256), .int .u8 (Int.tmod (Int.tdiv b_1 4294967296) 256), .int .u8 (Int.tmod (Int.tdiv b_1 16777216) 256), .int .u8 (Int.tmod (Int.tdiv b_1 65536) 256)] : List AV) = 14) (k2 ((by simp [AV.one]) : List.all ([.int .u8 (Int.tmod (Int.tdiv b_1 256) 256)] : List AV) AV.one = true) (k2 ((by decide) : 14 + 1 ≤ 4294967296) (k2 (rfl : true = true) (k2 ((by decide) : 1 ≠ (0 : Int)) (k2 h31 (k2 ((by decide) : 256 ≠ (0 : Int)) (k2 h32 (k2 ((Nat.le_of_ble_eq_true rfl) : 0 + 1 ≤ List.length ([.int .u8 (Int.tmod (Int.tdiv b_1 1) 256)] : List AV)) (k2 ((by decide) : 0 < 1) (k2 (rfl : List.length ([.int .u8 (Int.tmod (Int.tdiv a_0 72057594037927936) 256), .int .u8 (Int.tmod (Int.tdiv a_0 281474976710656) 256), .int .u8 (Int.tmod (Int.tdiv a_0 1099511627776) 256), .int .u8 (Int.tmod (Int.tdiv a_0 4294967296) 256), .int .u8 (Int.tmod (Int.tdiv a_0 16777216) 256), .int .u8 (Int.tmod (Int.tdiv a_0 65536) 256), .int .u8 (Int.tmod (Int.tdiv a_0 256) 256), .int .u8 (Int.tmod (Int.tdiv a_0 1) 256), .int .u8 (Int.tmod (Int.tdiv b_1 72057594037927936) 256), .int .u8 (Int.tmod (Int.tdiv b_1 281474976710656) 256), .int .u8 (Int.tmod (Int.tdiv b_1 1099511627776) 256), .int .u8 (Int.tmod (Int.tdiv b_1 4294967296) 256), .int .u8 (Int.tmod (Int.tdiv b_1 16777216) 256), .int .u8 (Int.tmod (Int.tdiv b_1 65536) 256), .int .u8 (Int.tmod (Int.tdiv b_1 256) 256)] : List AV) = 15) (k2 ((by simp [AV.one]) : List.all ([.int .u8 (Int.tmod (Int.tdiv b_1 1) 256)] : List AV) AV.one = true) (k2 ((by decide) : 15 + 1 ≤ 4294967296) (k2 (rfl : false = false) (k2 ((by simp only [u8s, List.map, ← u8_of h2, ← u8_of h4, ← u8_of h6, ← u8_of h8, ← u8_of h10, ← u8_of h12, ← u8_of h14, ← u8_of h16, ← u8_of h18, ← u8_of h20, ← u8_of h22, ← u8_of h24, ← u8_of h26, ← u8_of h28, ← u8_of h30, ← u8_of h32]) : [.int .u8 (Int.tmod (Int.tdiv a_0 72057594037927936) 256), .int .u8 (Int.tmod (Int.tdiv a_0 281474976710656) 256), .int .u8 (Int.tmod (Int.tdiv a_0 1099511627776) 256), .int .u8 (Int.tmod (Int.tdiv a_0 4294967296) 256), .int .u8 (Int.tmod (Int.tdiv a_0 16777216) 256), .int .u8 (Int.tmod (Int.tdiv a_0 65536) 256), .int .u8 (Int.tmod (Int.tdiv a_0 256) 256), .int .u8 (Int.tmod (Int.tdiv a_0 1) 256), .int .u8 (Int.tmod (Int.tdiv b_1 72057594037927936) 256), .int .u8 (Int.tmod (Int.tdiv b_1 281474976710656) 256), .int .u8 (Int.tmod (Int.tdiv b_1 1099511627776) 256), .int .u8 (Int.tmod (Int.tdiv b_1 4294967296) 256), .int .u8 (Int.tmod (Int.tdiv b_1 16777216) 256), .int .u8 (Int.tmod (Int.tdiv b_1 65536) 256), .int .u8 (Int.tmod (Int.tdiv b_1 256) 256), .int .u8 (Int.tmod (Int.tdiv b_1 1) 256)] = (u8s ([(UInt8.ofNat (Int.toNat (Int.tmod (Int.tdiv a_0 72057594037927936) 256))), (UInt8.ofNat (Int.toNat (Int.tmod (Int.tdiv a_0 281474976710656) 256))), (UInt8.ofNat (Int.toNat (Int.tmod (Int.tdiv a_0 1099511627776) 256))), (UInt8.ofNat (Int.toNat (Int.tmod (Int.tdiv a_0 4294967296) 256))), (UInt8.ofNat (Int.toNat (Int.tmod (Int.tdiv a_0 16777216) 256))), (UInt8.ofNat (Int.toNat (Int.tmod (Int.tdiv a_0 65536) 256))), (UInt8.ofNat (Int.toNat (Int.tmod (Int.tdiv a_0 256) 256))), (UInt8.ofNat (Int.toNat (Int.tmod (Int.tdiv a_0 1) 256))), (UInt8.ofNat (Int.toNat (Int.tmod (Int.tdiv b_1 72057594037927936) 256))), (UInt8.ofNat (Int.toNat (Int.tmod (Int.tdiv b_1 281474976710656) 256))), (UInt8.ofNat (Int.toNat (Int.tmod (Int.tdiv b_1 1099511627776) 256))), (UInt8.ofNat (Int.toNat (Int.tmod (Int.tdiv b_1 4294967296) 256))), (UInt8.ofNat (Int.toNat (Int.tmod (Int.tdiv b_1 16777216) 256))), (UInt8.ofNat (Int.toNat (Int.tmod (Int.tdiv b_1 65536) 256))), (UInt8.ofNat (Int.toNat (Int.tmod (Int.tdiv b_1 256) 256))), (UInt8.ofNat (Int.toNat (Int.tmod (Int.tdiv b_1 1) 256)))] : List UInt8))) (k2 (⟨rfl, rfl, Nat.le_of_ble_eq_true rfl, Nat.le_of_ble_eq_true rfl⟩ : sub (u8s ([(UInt8.ofNat (Int.toNat (Int.tmod (Int.tdiv a_0 72057594037927936) 256))), (UInt8.ofNat (Int.toNat (Int.tmod (Int.tdiv a_0 281474976710656) 256))), (UInt8.ofNat (Int.toNat (Int.tmod (Int.tdiv a_0 1099511627776) 256))), (UInt8.ofNat (Int.toNat (Int.tmod (Int.tdiv a_0 4294967296) 256))), (UInt8.ofNat (Int.toNat (Int.tmod (Int.tdiv a_0 16777216) 256))), (UInt8.ofNat (Int.toNat (Int.tmod (Int.tdiv a_0 65536) 256))), (UInt8.ofNat (Int.toNat (Int.tmod (Int.tdiv a_0 256) 256))), (UInt8.ofNat (Int.toNat (Int.tmod (Int.tdiv a_0 1) 256))), (UInt8.ofNat (Int.toNat (Int.tmod (Int.tdiv b_1 72057594037927936) 256))), (UInt8.ofNat (Int.toNat (Int.tmod (Int.tdiv b_1 281474976710656) 256))), (UInt8.ofNat (Int.toNat (Int.tmod (Int.tdiv b_1 1099511627776) 256))), (UInt8.ofNat (Int.toNat (Int.tmod (Int.tdiv b_1 4294967296) 256))), (UInt8.ofNat (Int.toNat (Int.tmod (Int.tdiv b_1 16777216) 256))), (UInt8.ofNat (Int.toNat (Int.tmod (Int.tdiv b_1 65536) 256))), (UInt8.ofNat (Int.toNat (Int.tmod (Int.tdiv b_1 256) 256))), (UInt8.ofNat (Int.toNat (Int.tmod (Int.tdiv b_1 1) 256)))] : List UInt8)) 0 16 = (u8s ([(UInt8.ofNat (Int.toNat (Int.tmod (Int.tdiv a_0 72057594037927936) 256))), (UInt8.ofNat (Int.toNat (Int.tmod (Int.tdiv a_0 281474976710656) 256))), (UInt8.ofNat (Int.toNat (Int.tmod (Int.tdiv a_0 1099511627776) 256))), (UInt8.ofNat (Int.toNat (Int.tmod (Int.tdiv a_0 4294967296) 256))), (UInt8.ofNat (Int.toNat (Int.tmod (Int.tdiv a_0 16777216) 256))), (UInt8.ofNat (Int.toNat (Int.tmod (Int.tdiv a_0 65536) 256))), (UInt8.ofNat (Int.toNat (Int.tmod (Int.tdiv a_0 256) 256))), (UInt8.ofNat (Int.toNat (Int.tmod (Int.tdiv a_0 1) 256))), (UInt8.ofNat (Int.toNat (Int.tmod (Int.tdiv b_1 72057594037927936) 256))), (UInt8.ofNat (Int.toNat (Int.tmod (Int.tdiv b_1 281474976710656) 256))), (UInt8.ofNat (Int.toNat (Int.tmod (Int.tdiv b_1 1099511627776) 256))), (UInt8.ofNat (Int.toNat (Int.tmod (Int.tdiv b_1 4294967296) 256))), (UInt8.ofNat (Int.toNat (Int.tmod (Int.tdiv b_1 16777216) 256))), (UInt8.ofNat (Int.toNat (Int.tmod (Int.tdiv b_1 65536) 256))), (UInt8.ofNat (Int.toNat (Int.tmod (Int.tdiv b_1 256) 256))), (UInt8.ofNat (Int.toNat (Int.tmod (Int.tdiv b_1 1) 256)))] : List UInt8)) ∧ 16 = 16 ∧ 0 + 16 ≤ List.length ((u8s ([(UInt8.ofNat (Int.toNat (Int.tmod (Int.tdiv a_0 72057594037927936) 256))), (UInt8.ofNat (Int.toNat (Int.tmod (Int.tdiv a_0 281474976710656) 256))), (UInt8.ofNat (Int.toNat (Int.tmod (Int.tdiv a_0 1099511627776) 256))), (UInt8.ofNat (Int.toNat (Int.tmod (Int.tdiv a_0 4294967296) 256))), (UInt8.ofNat (Int.toNat (Int.tmod (Int.tdiv a_0 16777216) 256))), (UInt8.ofNat (Int.toNat (Int.tmod (Int.tdiv a_0 65536) 256))), (UInt8.ofNat (Int.toNat (Int.tmod (Int.tdiv a_0 256) 256))), (UInt8.ofNat (Int.toNat (Int.tmod (Int.tdiv a_0 1) 256))), (UInt8.ofNat (Int.toNat (Int.tmod (Int.tdiv b_1 72057594037927936) 256))), (UInt8.ofNat (Int.toNat (Int.tmod (Int.tdiv b_1 281474976710656) 256))), (UInt8.ofNat (Int.toNat (Int.tmod (Int.tdiv b_1 1099511627776) 256))), (UInt8.ofNat (Int.toNat (Int.tmod (Int.tdiv b_1 4294967296) 256))), (UInt8.ofNat (Int.toNat (Int.tmod (Int.tdiv b_1 16777216) 256))), (UInt8.ofNat (Int.toNat (Int.tmod (Int.tdiv b_1 65536) 256))), (UInt8.ofNat (Int.toNat (Int.tmod (Int.tdiv b_1 256) 256))), (UInt8.ofNat (Int.toNat (Int.tmod (Int.tdiv b_1 1) 256)))] : List UInt8)) : List AV) ∧ 16 ≤ 16) (k2 (trivial : datBlks []) (ok1 (tollwayref08_Hash_ret ([(UInt8.ofNat (Int.toNat (Int.tmod (Int.tdiv a_0 72057594037927936) 256))), (UInt8.ofNat (Int.toNat (Int.tmod (Int.tdiv a_0 281474976710656) 256))), (UInt8.ofNat (Int.toNat (Int.tmod (Int.tdiv a_0 1099511627776) 256))), (UInt8.ofNat (Int.toNat (Int.tmod (Int.tdiv a_0 4294967296) 256))), (UInt8.ofNat (Int.toNat (Int.tmod (Int.tdiv a_0 16777216) 256))), (UInt8.ofNat (Int.toNat (Int.tmod (Int.tdiv a_0 65536) 256))), (UInt8.ofNat (Int.toNat (Int.tmod (Int.tdiv a_0 256) 256))), (UInt8.ofNat (Int.toNat (Int.tmod (Int.tdiv a_0 1) 256))), (UInt8.ofNat (Int.toNat (Int.tmod (Int.tdiv b_1 72057594037927936) 256))), (UInt8.ofNat (Int.toNat (Int.tmod (Int.tdiv b_1 281474976710656) 256))), (UInt8.ofNat (Int.toNat (Int.tmod (Int.tdiv b_1 1099511627776) 256))), (UInt8.ofNat (Int.toNat (Int.tmod (Int.tdiv b_1 4294967296) 256))), (UInt8.ofNat (Int.toNat (Int.tmod (Int.tdiv b_1 16777216) 256))), (UInt8.ofNat (Int.toNat (Int.tmod (Int.tdiv b_1 65536) 256))), (UInt8.ofNat (Int.toNat (Int.tmod (Int.tdiv b_1 256) 256))), (UInt8.ofNat (Int.toNat (Int.tmod (Int.tdiv b_1 1) 256)))] : List UInt8) r33 h34)))))))))))))))))))))))))))))))))))))))))))))))))))))))))))))))))))))))))))))))))))))))))))))))))))))))))))))))))))))))))))))))))))))))))))))))))))))))))))))))))))))
noncomputable def tollwayref08_up_L1_step (l_0 : (List Int)) : (Int × (List Int)) → Option ((Int × (List Int)) ⊕ (List Int))
  | (v4, b0) =>
    if v4 < (↑l_0.length : Int) then
      if InR .i64 (v4 + 1) then
        if (v4 + 1) < (↑l_0.length : Int) then
          if (0 : Int) ≤ v4 then
            (l_0[v4.toNat]?).bind fun x24 =>
            if (0 : Int) ≤ (v4 + 1) then
              (l_0[(Int.toNat (v4 + 1))]?).bind fun x27 =>
              (tollwayref08_Join x24 x27).bind fun r29 =>
              if b0.length + 1 ≤ 4294967296 then
                if InR .i64 (v4 + 2) then
                  some (Sum.inl ((v4 + 2), (b0 ++ [r29])))
                else none
              else none
            else none
          else none
        else
          if (0 : Int) ≤ v4 then
            (l_0[v4.toNat]?).bind fun x34 =>
            if b0.length + 1 ≤ 4294967296 then
              if InR .i64 (v4 + 2) then
                some (Sum.inl ((v4 + 2), (b0 ++ [x34])))
              else none
            else none
          else none
      else none
    else
      some (Sum.inr b0)
def tollwayref08_up_L1_H (l_0 : (List Int)) : (Int × (List Int)) → St := fun (s : (Int × (List Int))) => S 37 [(0, .lst (fl e_u64 l_0) l_0.length), (3, .vec 0 s.2.length 1), (4, .int .i64 s.1)] [(bV (fl e_u64 s.2) 41)]
def tollwayref08_up_L1_X (l_0 : (List Int)) : (List Int) → AEx := fun o => (.exit 0)
def tollwayref08_up_L1_T (l_0 : (List Int)) : (List Int) → List (Nat × AV) := fun o => [(3, .vec 0 o.length 1)]
def tollwayref08_up_L1_B (l_0 : (List Int)) : (List Int) → List Blk := fun o => [(bV (fl e_u64 o) 41)]
def tollwayref08_up_L1_E (l_0 : (List Int)) (q : (List Int)) : St := S 37 (tollwayref08_up_L1_T l_0 q) (tollwayref08_up_L1_B l_0 q)
theorem tollwayref08_up_L1_does (l_0 : (List Int)) {s : (Int × (List Int))} {r : (List Int)} (h : lp (tollwayref08_up_L1_step l_0) s = some r) : Does Tryz.prog G0 0 (.loop (bodyAt Tryz.prog 89 [1, 1, 0, 1, 0, 0])) (tollwayref08_up_L1_H l_0 s) (tollwayref08_up_L1_X l_0 r) (tollwayref08_up_L1_E l_0 r) := by
  refine Does.lp (H := tollwayref08_up_L1_H l_0) (X := tollwayref08_up_L1_X l_0) (E := tollwayref08_up_L1_E l_0) (fun s s2 h => ?_) (fun s r h => ?_) h
  · obtain ⟨v4, b0⟩ := s
    unfold tollwayref08_up_L1_step at h
    try dsimp only at h
    rcases ite_some h with ⟨c20, h⟩ | ⟨c20, h⟩
    · obtain ⟨h21, h⟩ := guard_some h
      rcases ite_some h with ⟨c22, h⟩ | ⟨c22, h⟩
      · obtain ⟨h23, h⟩ := guard_some h
        obtain ⟨x24, h25, h⟩ := bind_some h
        obtain ⟨h26, h⟩ := guard_some h
        obtain ⟨x27, h28, h⟩ := bind_some h
        obtain ⟨r29, h30, h⟩ := bind_some h
        obtain ⟨h31, h⟩ := guard_some h
        obtain ⟨h32, h⟩ := guard_some h
        obtain rfl := oL h
        exact Does.of_viewM 0 400 (cs 3 (oa :: (.br true) :: oc :: ow :: (cs 2 (oa :: (.br true) :: (cs 3 ((.op none (.i v4.toNat)) :: (.op none (.v [.int .u64 x24])) :: (cs 2 (ow :: (.op none (.i (Int.toNat (v4 + 1)))) :: (.op none (.v [.int .u64 x27])) :: (.ret none [.any, .any] (.int .u64 r29) []) :: oc :: (.op none (.ap 4)) :: (.trp (.eqc 2 (fl e_u64 (b0 ++ [r29])))) :: (.trp (.eqt (.t 28) (.vec 2 ((b0 ++ [r29]).length) 1))) :: (cs 2 [ow, oc]))))))))) [2] (by kernel_rfl) (by kernel_rfl) (k2 (decide_eq_true c20) (k2 h21 (k2 (decide_eq_true c22) (k2 (ix h23 h25) (k2 (fl_ne (f := e_u64) (z := 0) (fun _ => rfl) h25) (k2 (s_u64 h25) (k2 h21 (k2 (ix h26 h28) (k2 (fl_ne (f := e_u64) (z := 0) (fun _ => rfl) h28) (k2 (s_u64 h28) (k2 (tollwayref08_Join_ret x24 x27 r29 h30) (k2 ((Nat.le_of_ble_eq_true rfl) : 0 + 1 ≤ List.length ([.int .u64 r29] : List AV)) (k2 ((fl_length1 (f := e_u64) (fun _ => rfl) _) : List.length ((fl e_u64 b0) : List AV) = b0.length) (k2 (rfl : List.all ([.int .u64 r29] : List AV) AV.one = true) (k2 h31 (k2 ((fl_snoc rfl) : (fl e_u64 b0) ++ [.int .u64 r29] = (fl e_u64 (b0 ++ [r29]))) (k2 ((by simp <;> omega) : (.vec 2 (b0.length + 1) 1 : AV) = .vec 2 ((b0 ++ [r29]).length) 1) (k2 (⟨rfl, trivial⟩ : (some (Ob.blk (bT [.int .u64 r29] 41)) = some (Ob.blk (bT [.int .u64 r29] 41))) ∧ True) (ok1 h32)))))))))))))))))))
      · obtain ⟨h33, h⟩ := guard_some h
        obtain ⟨x34, h35, h⟩ := bind_some h
        obtain ⟨h36, h⟩ := guard_some h
        obtain ⟨h37, h⟩ := guard_some h
        obtain rfl := oL h
        exact Does.of_viewM 0 400 (cs 3 (oa :: (.br true) :: oc :: ow :: (cs 2 (oa :: (.br false) :: (cs 3 ((.op none (.i v4.toNat)) :: (.op none (.v [.int .u64 x34])) :: oc :: (.op none (.ap 4)) :: (.tr (.eqc 2 (fl e_u64 (b0 ++ [x34])))) :: (.tr (.eqt (.t 35) (.vec 2 ((b0 ++ [x34]).length) 1))) :: (cs 2 [ow, oc]))))))) [2] (by kernel_rfl) (by kernel_rfl) (k2 (decide_eq_true c20) (k2 h21 (k2 (decide_eq_false c22) (k2 (ix h33 h35) (k2 (fl_ne (f := e_u64) (z := 0) (fun _ => rfl) h35) (k2 (s_u64 h35) (k2 ((Nat.le_of_ble_eq_true rfl) : 0 + 1 ≤ List.length ([.int .u64 x34] : List AV)) (k2 ((fl_length1 (f := e_u64) (fun _ => rfl) _) : List.length ((fl e_u64 b0) : List AV) = b0.length) (k2 (rfl : List.all ([.int .u64 x34] : List AV) AV.one = true) (k2 h36 (k2 ((fl_snoc rfl) : (fl e_u64 b0) ++ [.int .u64 x34] = (fl e_u64 (b0 ++ [x34]))) (k2 ((by simp <;> omega) : (.vec 2 (b0.length + 1) 1 : AV) = .vec 2 ((b0 ++ [x34]).length) 1) (ok1 h37)))))))))))))
    · simp at h
  · obtain ⟨v4, b0⟩ := s
    unfold tollwayref08_up_L1_step at h
    try dsimp only at h
    rcases ite_some h with ⟨c20, h⟩ | ⟨c20, h⟩
    · obtain ⟨h21, h⟩ := guard_some h
      rcases ite_some h with ⟨c22, h⟩ | ⟨c22, h⟩
      · obtain ⟨h23, h⟩ := guard_some h
        obtain ⟨x24, h25, h⟩ := bind_some h
        obtain ⟨h26, h⟩ := guard_some h
        obtain ⟨x27, h28, h⟩ := bind_some h
        obtain ⟨r29, h30, h⟩ := bind_some h
        obtain ⟨h31, h⟩ := guard_some h
        obtain ⟨h32, h⟩ := guard_some h
        simp at h
      · obtain ⟨h33, h⟩ := guard_some h
        obtain ⟨x34, h35, h⟩ := bind_some h
        obtain ⟨h36, h⟩ := guard_some h
        obtain ⟨h37, h⟩ := guard_some h
        simp at h
    · obtain rfl := oR h
      exact ⟨Does.of_viewM 0 400 (cs 3 [oa, .br false]) [0] (by kernel_rfl) (by kernel_rfl) (ok1 (decide_eq_false c20)), by intro q; cases q⟩
noncomputable def tollwayref08_up (l_0 : (List Int)) : Option (List Int) :=
  (lp (tollwayref08_up_L1_step l_0) ((0 : Int), ([] : (List Int)))).bind fun o1 =>
  some o1
theorem tollwayref08_up_ret (l_0 : (List Int)) (r : (List Int)) (h : tollwayref08_up l_0 = some r) : Ret Tryz.prog G0 89 [.lst (fl e_u64 l_0) l_0.length] (.vec 0 r.length 1) [(bV (fl e_u64 r) 41)] := by
  unfold tollwayref08_up at h
  obtain ⟨o1, hl1, h⟩ := bind_some h
  obtain rfl := oI h
  exact Ret.of_view 400 (cs 3 ((.tr (.vec (.t 3) 1 41)) :: (.fcut 0 (.exit 0) [(3, .vec 0 o1.length 1)] [(bV (fl e_u64 o1) 41)] [0] [(0, .any), (3, .vec 0 (([] : (List Int)).length) 1), (4, .int .i64 (0 : Int))] [(bV (fl e_u64 ([] : (List Int))) 41)]) :: (cs 2 []))) [1] (by kernel_rfl) (by kernel_rfl) (k2 ((by first | rfl | simp only [List.length_replicate, List.length_set]) : (.vec 0 0 1 : AV) = .vec 0 (([] : (List Int)).length) 1) (k2 (rfl : (.int .i64 0 : AV) = .int .i64 (0 : Int)) (k2 (rfl : ((bV [] 41) : Blk) = renB [0] (bV (fl e_u64 ([] : (List Int))) 41)) (ok1 (tollwayref08_up_L1_does l_0 (s := ((0 : Int), ([] : (List Int)))) (r := o1) hl1)))))
noncomputable def tollwayref08_levels_L1_step  : ((List Int) × (List (List Int))) → Option (((List Int) × (List (List Int))) ⊕ (List (List Int)))
  | (v4, b1) =>
    if (↑v4.length : Int) > (1 : Int) then
      (tollwayref08_up v4).bind fun r7 =>
      if b1.length + 1 ≤ 4294967296 then
        some (Sum.inl (r7, (b1 ++ [r7])))
      else none
    else
      some (Sum.inr b1)
def tollwayref08_levels_L1_H  : ((List Int) × (List (List Int))) → St := fun (s : ((List Int) × (List (List Int)))) => S 20 [(3, .vec 0 s.2.length 1), (4, .lst (fl e_u64 s.1) s.1.length)] [(bV (fl (e_lst e_u64) s.2) 26)]
def tollwayref08_levels_L1_X  : (List (List Int)) → AEx := fun o => (.exit 0)
def tollwayref08_levels_L1_T  : (List (List Int)) → List (Nat × AV) := fun o => [(3, .vec 0 o.length 1)]
def tollwayref08_levels_L1_B  : (List (List Int)) → List Blk := fun o => [(bV (fl (e_lst e_u64) o) 26)]
def tollwayref08_levels_L1_E  (q : (List (List Int))) : St := S 20 (tollwayref08_levels_L1_T  q) (tollwayref08_levels_L1_B  q)
theorem tollwayref08_levels_L1_does  {s : ((List Int) × (List (List Int)))} {r : (List (List Int))} (h : lp (tollwayref08_levels_L1_step ) s = some r) : Does Tryz.prog G0 0 (.loop (bodyAt Tryz.prog 65 [1, 1, 1, 1, 0, 0, 0])) (tollwayref08_levels_L1_H  s) (tollwayref08_levels_L1_X  r) (tollwayref08_levels_L1_E  r) := by
  refine Does.lp (H := tollwayref08_levels_L1_H ) (X := tollwayref08_levels_L1_X ) (E := tollwayref08_levels_L1_E ) (fun s s2 h => ?_) (fun s r h => ?_) h
  · obtain ⟨v4, b1⟩ := s
    unfold tollwayref08_levels_L1_step at h
    try dsimp only at h
    rcases ite_some h with ⟨c6, h⟩ | ⟨c6, h⟩
    · obtain ⟨r7, h8, h⟩ := bind_some h
      obtain ⟨h9, h⟩ := guard_some h
      obtain rfl := oL h
      exact Does.of_viewM 0 400 (cs 2 (oa :: (.br true) :: oc :: (.ret none [.any] (.vec 0 r7.length 1) [(bV (fl e_u64 r7) 41)]) :: (cs 3 [.tr (.frz [.t 4, .t 14, .t 16] (fl e_u64 r7) r7.length), oc, .op none (.ap 4), .tr (.eqc 3 (fl (e_lst e_u64) (b1 ++ [r7]))), .tr (.eqt (.t 18) (.vec 3 ((b1 ++ [r7]).length) 1)), oc]))) [3] (by kernel_rfl) (by kernel_rfl) (k2 (decide_eq_true c6) (k2 (tollwayref08_up_ret v4 r7 h8) (k2 (⟨rfl, rfl, rfl, (fl_length1 (f := e_u64) (fun _ => rfl) _)⟩ : 1 = 1 ∧ (fl e_u64 r7) = (fl e_u64 r7) ∧ r7.length = r7.length ∧ List.length ((fl e_u64 r7) : List AV) = r7.length) (k2 (⟨rfl, rfl, rfl, (fl_length1 (f := e_u64) (fun _ => rfl) _)⟩ : 1 = 1 ∧ (fl e_u64 r7) = (fl e_u64 r7) ∧ r7.length = r7.length ∧ List.length ((fl e_u64 r7) : List AV) = r7.length) (k2 (⟨rfl, rfl, rfl, (fl_length1 (f := e_u64) (fun _ => rfl) _)⟩ : 1 = 1 ∧ (fl e_u64 r7) = (fl e_u64 r7) ∧ r7.length = r7.length ∧ List.length ((fl e_u64 r7) : List AV) = r7.length) (k2 ((Nat.le_of_ble_eq_true rfl) : 0 + 1 ≤ List.length ([.lst (fl e_u64 r7) r7.length] : List AV)) (k2 ((fl_length1 (f := (e_lst e_u64)) (fun _ => rfl) _) : List.length ((fl (e_lst e_u64) b1) : List AV) = b1.length) (k2 (rfl : List.all ([.lst (fl e_u64 r7) r7.length] : List AV) AV.one = true) (k2 h9 (k2 ((fl_snoc rfl) : (fl (e_lst e_u64) b1) ++ [.lst (fl e_u64 r7) r7.length] = (fl (e_lst e_u64) (b1 ++ [r7]))) (ok1 ((by simp <;> omega) : (.vec 3 (b1.length + 1) 1 : AV) = .vec 3 ((b1 ++ [r7]).length) 1))))))))))))
    · simp at h
  · obtain ⟨v4, b1⟩ := s
    unfold tollwayref08_levels_L1_step at h
    try dsimp only at h
    rcases ite_some h with ⟨c6, h⟩ | ⟨c6, h⟩
    · obtain ⟨r7, h8, h⟩ := bind_some h
      obtain ⟨h9, h⟩ := guard_some h
      simp at h
    · obtain rfl := oR h
      exact ⟨Does.of_viewM 0 400 (cs 2 [oa, .br false]) [0] (by kernel_rfl) (by kernel_rfl) (ok1 (decide_eq_false c6)), by intro q; cases q⟩
noncomputable def tollwayref08_levels (l_0 : (List Int)) : Option (List (List Int)) :=
  (lp (tollwayref08_levels_L1_step) (l_0, ([l_0] : (List (List Int))))).bind fun o1 =>
  some o1
theorem tollwayref08_levels_ret (l_0 : (List Int)) (r : (List (List Int))) (h : tollwayref08_levels l_0 = some r) : Ret Tryz.prog G0 65 [.lst (fl e_u64 l_0) l_0.length] (.vec 0 r.length 1) [(bV (fl (e_lst e_u64) r) 26)] := by
  unfold tollwayref08_levels at h
  obtain ⟨o1, hl1, h⟩ := bind_some h
  obtain rfl := oI h
  exact Ret.of_view 400 (cs 7 ((.op none (.ap 2)) :: oc :: (.tr (.wid (.t 3))) :: (.fcut 0 (.exit 0) [(3, .vec 0 o1.length 1)] (tollwayref08_levels_L1_B o1) [1] [(3, .vec 0 (([l_0] : (List (List Int))).length) 1), (4, .any)] [(bV (fl (e_lst e_u64) ([l_0] : (List (List Int)))) 26)]) :: (cs 2 []))) [2] (by kernel_rfl) (by kernel_rfl) (k2 ((Nat.le_of_ble_eq_true rfl) : 0 + 1 ≤ List.length ([.lst (fl e_u64 l_0) l_0.length] : List AV)) (k2 ((by decide) : 0 < 1) (k2 ((by decide) : 1 ≤ 4294967296) (k2 ((Nat.le_refl _) : 1 ≤ 1) (k2 ((by first | rfl | simp only [List.length_replicate, List.length_set]) : (.vec 1 1 1 : AV) = .vec 1 (([l_0] : (List (List Int))).length) 1) (k2 (rfl : ((bV [.lst (fl e_u64 l_0) l_0.length] 26) : Blk) = renB [1] (bV (fl (e_lst e_u64) ([l_0] : (List (List Int)))) 26)) (ok1 (tollwayref08_levels_L1_does (s := (l_0, ([l_0] : (List (List Int))))) (r := o1) hl1))))))))
noncomputable def tollwayref50_Describe_L15_step (x_0 : Tapi_Charge) : (Nat × (List UInt8)) → Option ((Nat × (List UInt8)) ⊕ (List UInt8))
  | (k4, b7) =>
    if (↑k4 : Int) < (↑x_0.Lines.length : Int) then
      (x_0.Lines[k4]?).bind fun x25 =>
      (tollwayref02_PutText b7 x25.Text).bind fun r27 =>
      (tollwayref02_PutInt r27 x25.Cents).bind fun r29 =>
      if InR .i64 ((↑k4 : Int) + 1) then
        some (Sum.inl ((k4 + 1), r29))
      else none
    else
      some (Sum.inr b7)
def tollwayref50_Describe_L15_H (x_0 : Tapi_Charge) : (Nat × (List UInt8)) → St := fun (s : (Nat × (List UInt8))) => S 57 [(1, .ptr 0 0), (3, .vec 1 s.2.length 1), (4, .int .i64 (↑s.1 : Int))] [(bT (Tapi_Charge.enc x_0) 35), (bV (u8s s.2) 5)]
def tollwayref50_Describe_L15_X (x_0 : Tapi_Charge) : (List UInt8) → AEx := fun o => (.exit 0)
def tollwayref50_Describe_L15_T (x_0 : Tapi_Charge) : (List UInt8) → List (Nat × AV) := fun o => [(3, .vec 1 o.length 1)]
def tollwayref50_Describe_L15_B (x_0 : Tapi_Charge) : (List UInt8) → List Blk := fun o => [(bT (Tapi_Charge.enc x_0) 35), (bV (u8s o) 5)]
def tollwayref50_Describe_L15_E (x_0 : Tapi_Charge) (q : (List UInt8)) : St := S 57 (tollwayref50_Describe_L15_T x_0 q) (tollwayref50_Describe_L15_B x_0 q)
theorem tollwayref50_Describe_L15_does (x_0 : Tapi_Charge) {s : (Nat × (List UInt8))} {r : (List UInt8)} (h : lp (tollwayref50_Describe_L15_step x_0) s = some r) : Does Tryz.prog G0 1 (.loop (bodyAt Tryz.prog 25 [1, 1, 1, 1, 1, 1, 1, 1, 0, 1, 0, 0])) (tollwayref50_Describe_L15_H x_0 s) (tollwayref50_Describe_L15_X x_0 r) (tollwayref50_Describe_L15_E x_0 r) := by
  refine Does.lp (H := tollwayref50_Describe_L15_H x_0) (X := tollwayref50_Describe_L15_X x_0) (E := tollwayref50_Describe_L15_E x_0) (fun s s2 h => ?_) (fun s r h => ?_) h
  · obtain ⟨k4, b7⟩ := s
    unfold tollwayref50_Describe_L15_step at h
    try dsimp only at h
    rcases ite_some h with ⟨c24, h⟩ | ⟨c24, h⟩
    · obtain ⟨x25, h26, h⟩ := bind_some h
      obtain ⟨r27, h28, h⟩ := bind_some h
      obtain ⟨r29, h30, h⟩ := bind_some h
      obtain ⟨h31, h⟩ := guard_some h
      obtain rfl := oL h
      exact Does.of_viewM 1 400 (cs 4 (oa :: (.br true) :: (cs 4 ((.op none (.i k4)) :: oc :: (.op none (.v [.str x25.Text])) :: (.ret none [.lst (u8s b7) b7.length, .any] (.vec 0 r27.length 1) [(bV (u8s r27) 5)]) :: (cs 5 ((.op none (.i k4)) :: oc :: (.op none (.v [.int .i64 x25.Cents])) :: (.ret none [.lst (u8s r27) r27.length, .any] (.vec 0 r29.length 1) [(bV (u8s r29) 5)]) :: (cs 2 [ow, oc]))))))) [0, 3] (by kernel_rfl) (by kernel_rfl) (k2 (decide_eq_true c24) (k2 (ir h26) (k2 (fl_ne (f := Tapi_Line.enc) (z := 1) (fun _ => rfl) h26) (k2 (fl_sub (f := Tapi_Line.enc) (z := 2) (j := k4) (a := 0) (n := 1) (fun _ => rfl) h26 (by decide) rfl) (k2 (⟨rfl, rfl, u8s_length⟩ : (u8s b7) = (u8s b7) ∧ b7.length = b7.length ∧ List.length ((u8s b7) : List AV) = b7.length) (k2 (⟨u8s_dat, trivial⟩ : datBlks [(bV (u8s r27) 5)]) (k2 (tollwayref02_PutText_ret b7 x25.Text r27 h28) (k2 (ir h26) (k2 (fl_ne (f := Tapi_Line.enc) (z := 1) (fun _ => rfl) h26) (k2 (fl_sub (f := Tapi_Line.enc) (z := 2) (j := k4) (a := 1) (n := 1) (fun _ => rfl) h26 (by decide) rfl) (k2 (⟨rfl, rfl, u8s_length⟩ : (u8s r27) = (u8s r27) ∧ r27.length = r27.length ∧ List.length ((u8s r27) : List AV) = r27.length) (k2 (⟨u8s_dat, trivial⟩ : datBlks [(bV (u8s r29) 5)]) (k2 (tollwayref02_PutInt_ret r27 x25.Cents r29 h30) (ok1 h31))))))))))))))
    · simp at h
  · obtain ⟨k4, b7⟩ := s
    unfold tollwayref50_Describe_L15_step at h
    try dsimp only at h
    rcases ite_some h with ⟨c24, h⟩ | ⟨c24, h⟩
    · obtain ⟨x25, h26, h⟩ := bind_some h
      obtain ⟨r27, h28, h⟩ := bind_some h
      obtain ⟨r29, h30, h⟩ := bind_some h
      obtain ⟨h31, h⟩ := guard_some h
      simp at h
    · obtain rfl := oR h
      exact ⟨Does.of_viewM 1 400 (cs 4 [oa, .br false]) [0, 1] (by kernel_rfl) (by kernel_rfl) (ok1 (decide_eq_false c24)), by intro q; cases q⟩
noncomputable def tollwayref50_Describe (x_0 : Tapi_Charge) : Option (List UInt8) :=
  (tollwayref02_PutText [] x_0.Key).bind fun r1 =>
  (tollwayref02_PutText r1 x_0.Vehicle).bind fun r3 =>
  (tollwayref02_PutText r3 x_0.System).bind fun r5 =>
  (tollwayref02_PutInt r5 x_0.Class).bind fun r7 =>
  (tollwayref02_PutInt r7 x_0.Time).bind fun r9 =>
  (tollwayref02_PutInt r9 x_0.Cents).bind fun r11 =>
  (tollwayref02_PutInt r11 (↑x_0.Lines.length : Int)).bind fun r13 =>
  (lp (tollwayref50_Describe_L15_step x_0) ((0 : Nat), r13)).bind fun o15 =>
  some o15
theorem tollwayref50_Describe_ret (x_0 : Tapi_Charge) (r : (List UInt8)) (h : tollwayref50_Describe x_0 = some r) : Ret Tryz.prog G0 25 [.agg (Tapi_Charge.enc x_0)] (.vec 0 r.length 1) [(bV (u8s r) 5)] := by
  unfold tollwayref50_Describe at h
  obtain ⟨r1, h2, h⟩ := bind_some h
  obtain ⟨r3, h4, h⟩ := bind_some h
  obtain ⟨r5, h6, h⟩ := bind_some h
  obtain ⟨r7, h8, h⟩ := bind_some h
  obtain ⟨r9, h10, h⟩ := bind_some h
  obtain ⟨r11, h12, h⟩ := bind_some h
  obtain ⟨r13, h14, h⟩ := bind_some h
  obtain ⟨o15, hl15, h⟩ := bind_some h
  obtain rfl := oI h
  exact Ret.of_view 400 (cs 4 ((.ret none [.lst [] 0, .any] (.vec 0 r1.length 1) [(bV (u8s r1) 5)]) :: (cs 4 ((.ret none [.lst (u8s r1) r1.length, .any] (.vec 0 r3.length 1) [(bV (u8s r3) 5)]) :: (cs 4 ((.ret none [.lst (u8s r3) r3.length, .any] (.vec 0 r5.length 1) [(bV (u8s r5) 5)]) :: (cs 4 ((.ret none [.lst (u8s r5) r5.length, .any] (.vec 0 r7.length 1) [(bV (u8s r7) 5)]) :: (cs 4 ((.ret none [.lst (u8s r7) r7.length, .any] (.vec 0 r9.length 1) [(bV (u8s r9) 5)]) :: (cs 4 ((.ret none [.lst (u8s r9) r9.length, .any] (.vec 0 r11.length 1) [(bV (u8s r11) 5)]) :: (cs 5 ((.ret none [.lst (u8s r11) r11.length, .any] (.vec 0 r13.length 1) [(bV (u8s r13) 5)]) :: (cs 2 ((.fcut 1 (.exit 0) [(3, .vec 1 o15.length 1)] (tollwayref50_Describe_L15_B x_0 o15) [0, 7] [(1, .any), (3, .vec 1 r13.length 1), (4, .int .i64 (↑(0 : Nat) : Int))] [bS, bS]) :: (cs 2 []))))))))))))))))) [9] (by kernel_rfl) (by kernel_rfl) (k2 (tollwayref02_PutText_ret [] x_0.Key r1 h2) (k2 (⟨rfl, rfl, u8s_length⟩ : (u8s r1) = (u8s r1) ∧ r1.length = r1.length ∧ List.length ((u8s r1) : List AV) = r1.length) (k2 (⟨u8s_dat, trivial⟩ : datBlks [(bV (u8s r3) 5)]) (k2 (tollwayref02_PutText_ret r1 x_0.Vehicle r3 h4) (k2 (⟨rfl, rfl, u8s_length⟩ : (u8s r3) = (u8s r3) ∧ r3.length = r3.length ∧ List.length ((u8s r3) : List AV) = r3.length) (k2 (⟨u8s_dat, trivial⟩ : datBlks [(bV (u8s r5) 5)]) (k2 (tollwayref02_PutText_ret r3 x_0.System r5 h6) (k2 (⟨rfl, rfl, u8s_length⟩ : (u8s r5) = (u8s r5) ∧ r5.length = r5.length ∧ List.length ((u8s r5) : List AV) = r5.length) (k2 (⟨u8s_dat, trivial⟩ : datBlks [(bV (u8s r7) 5)]) (k2 (tollwayref02_PutInt_ret r5 x_0.Class r7 h8) (k2 (⟨rfl, rfl, u8s_length⟩ : (u8s r7) = (u8s r7) ∧ r7.length = r7.length ∧ List.length ((u8s r7) : List AV) = r7.length) (k2 (⟨u8s_dat, trivial⟩ : datBlks [(bV (u8s r9) 5)]) (k2 (tollwayref02_PutInt_ret r7 x_0.Time r9 h10) (k2 (⟨rfl, rfl, u8s_length⟩ : (u8s r9) = (u8s r9) ∧ r9.length = r9.length ∧ List.length ((u8s r9) : List AV) = r9.length) (k2 (⟨u8s_dat, trivial⟩ : datBlks [(bV (u8s r11) 5)]) (k2 (tollwayref02_PutInt_ret r9 x_0.Cents r11 h12) (k2 (⟨rfl, rfl, u8s_length⟩ : (u8s r11) = (u8s r11) ∧ r11.length = r11.length ∧ List.length ((u8s r11) : List AV) = r11.length) (k2 (⟨u8s_dat, trivial⟩ : datBlks [(bV (u8s r13) 5)]) (k2 (tollwayref02_PutInt_ret r11 (↑x_0.Lines.length : Int) r13 h14) (k2 ((by first | rfl | simp only [List.length_replicate, List.length_set]) : (.vec 7 r13.length 1 : AV) = .vec 7 r13.length 1) (k2 (rfl : (.int .i64 0 : AV) = .int .i64 (↑(0 : Nat) : Int)) (ok1 (tollwayref50_Describe_L15_does x_0 (s := ((0 : Nat), r13)) (r := o15) hl15)))))))))))))))))))))))
noncomputable def tollwayref50_Of_L1_step (l_0 : (List Tapi_Charge)) (key_1 : (List UInt8)) : Nat → Option (Nat ⊕ (((List UInt8) × (List UInt8) × (List UInt8) × Int × Int × (List Tapi_Line) × Int) ⊕ Unit)) := fun k6 =>
  if (↑k6 : Int) < (↑l_0.length : Int) then
    (l_0[k6]?).bind fun x8 =>
    if x8.Key = key_1 then
      some (Sum.inr (Sum.inl (x8.Key, x8.Vehicle, x8.System, x8.Class, x8.Time, x8.Lines, x8.Cents)))
    else
      if InR .i64 ((↑k6 : Int) + 1) then
        some (Sum.inl (k6 + 1))
      else none
  else
    some (Sum.inr (Sum.inr (())))
def tollwayref50_Of_L1_H (l_0 : (List Tapi_Charge)) (key_1 : (List UInt8)) : Nat → St := fun (s : Nat) => S 25 [(0, .lst (fl Tapi_Charge.enc l_0) l_0.length), (1, .str key_1), (4, .ptr 0 0), (6, .int .i64 (↑s : Int))] [(bT [.str [], .str [], .str [], .int .i64 0, .int .i64 0, .nils, .int .i64 0] 35)]
def tollwayref50_Of_L1_X (l_0 : (List Tapi_Charge)) (key_1 : (List UInt8)) : (((List UInt8) × (List UInt8) × (List UInt8) × Int × Int × (List Tapi_Line) × Int) ⊕ Unit) → AEx := fun q => match q with | Sum.inl o => .ret | Sum.inr (o) => (.exit 0)
def tollwayref50_Of_L1_T (l_0 : (List Tapi_Charge)) (key_1 : (List UInt8)) : (((List UInt8) × (List UInt8) × (List UInt8) × Int × Int × (List Tapi_Line) × Int) ⊕ Unit) → List (Nat × AV) := fun q => match q with | Sum.inl o => [(4, .ptr 0 0), (5, .bool true)] | Sum.inr (o) => [(4, .ptr 0 0)]
def tollwayref50_Of_L1_B (l_0 : (List Tapi_Charge)) (key_1 : (List UInt8)) : (((List UInt8) × (List UInt8) × (List UInt8) × Int × Int × (List Tapi_Line) × Int) ⊕ Unit) → List Blk := fun q => match q with | Sum.inl o => [(bT [.str o.1, .str o.2.1, .str o.2.2.1, .int .i64 o.2.2.2.1, .int .i64 o.2.2.2.2.1, .lst (fl Tapi_Line.enc o.2.2.2.2.2.1) o.2.2.2.2.2.1.length, .int .i64 o.2.2.2.2.2.2] 35)] | Sum.inr (o) => [(bT [.str [], .str [], .str [], .int .i64 0, .int .i64 0, .nils, .int .i64 0] 35)]
def tollwayref50_Of_L1_E (l_0 : (List Tapi_Charge)) (key_1 : (List UInt8)) (q : ((List UInt8) × (List UInt8) × (List UInt8) × Int × Int × (List Tapi_Line) × Int) ⊕ Unit) : St := S 25 (tollwayref50_Of_L1_T l_0 key_1 q) (tollwayref50_Of_L1_B l_0 key_1 q)
theorem tollwayref50_Of_L1_does (l_0 : (List Tapi_Charge)) (key_1 : (List UInt8)) {s : Nat} {r : ((List UInt8) × (List UInt8) × (List UInt8) × Int × Int × (List Tapi_Line) × Int) ⊕ Unit} (h : lp (tollwayref50_Of_L1_step l_0 key_1) s = some r) : Does Tryz.prog G0 1 (.loop (bodyAt Tryz.prog 22 [1, 0, 1, 0, 0])) (tollwayref50_Of_L1_H l_0 key_1 s) (tollwayref50_Of_L1_X l_0 key_1 r) (tollwayref50_Of_L1_E l_0 key_1 r) := by
  refine Does.lp (H := tollwayref50_Of_L1_H l_0 key_1) (X := tollwayref50_Of_L1_X l_0 key_1) (E := tollwayref50_Of_L1_E l_0 key_1) (fun s s2 h => ?_) (fun s r h => ?_) h
  · revert h; revert s; intro k6 h
    unfold tollwayref50_Of_L1_step at h
    try dsimp only at h
    rcases ite_some h with ⟨c7, h⟩ | ⟨c7, h⟩
    · obtain ⟨x8, h9, h⟩ := bind_some h
      rcases ite_some h with ⟨c10, h⟩ | ⟨c10, h⟩
      · simp at h
      · obtain ⟨h11, h⟩ := guard_some h
        obtain rfl := oL h
        exact Does.of_viewM 1 400 (cs 3 (oa :: (.br true) :: (cs 2 [.op none (.i k6), oc, .op none (.v [.str x8.Key]), oc, oa, .br false, oc, ow, oc]))) [0] (by kernel_rfl) (by kernel_rfl) (k2 (decide_eq_true c7) (k2 (ir h9) (k2 (fl_ne (f := Tapi_Charge.enc) (z := 6) (fun _ => rfl) h9) (k2 (fl_sub (f := Tapi_Charge.enc) (z := 7) (j := k6) (a := 0) (n := 1) (fun _ => rfl) h9 (by decide) rfl) (k2 (beq_f c10) (ok1 h11))))))
    · simp at h
  · revert h; revert s; intro k6 h
    unfold tollwayref50_Of_L1_step at h
    try dsimp only at h
    rcases ite_some h with ⟨c7, h⟩ | ⟨c7, h⟩
    · obtain ⟨x8, h9, h⟩ := bind_some h
      rcases ite_some h with ⟨c10, h⟩ | ⟨c10, h⟩
      · obtain rfl := oR h
        exact ⟨Does.of_viewM 1 400 (cs 3 (oa :: (.br true) :: (cs 2 ((.op none (.i k6)) :: oc :: (.op none (.v [.str x8.Key])) :: oc :: oa :: (.br true) :: (cs 2 ((.op none (.i k6)) :: (.op none (.v [.str x8.Key, .str x8.Vehicle, .str x8.System, .int .i64 x8.Class, .int .i64 x8.Time, .lst (fl Tapi_Line.enc x8.Lines) x8.Lines.length, .int .i64 x8.Cents])) :: (cs 2 []))))))) [0] (by kernel_rfl) (by kernel_rfl) (k2 (decide_eq_true c7) (k2 (ir h9) (k2 (fl_ne (f := Tapi_Charge.enc) (z := 6) (fun _ => rfl) h9) (k2 (fl_sub (f := Tapi_Charge.enc) (z := 7) (j := k6) (a := 0) (n := 1) (fun _ => rfl) h9 (by decide) rfl) (k2 (beq_t c10) (k2 (ir h9) (k2 (fl_ne (f := Tapi_Charge.enc) (z := 6) (fun _ => rfl) h9) (ok1 (fl_sub0 (f := Tapi_Charge.enc) (z := 7) (j := k6) (fun _ => rfl) h9 rfl))))))))), by intro q; cases q⟩
      · obtain ⟨h11, h⟩ := guard_some h
        simp at h
    · obtain rfl := oR h
      exact ⟨Does.of_viewM 1 400 (cs 3 [oa, .br false]) [0] (by kernel_rfl) (by kernel_rfl) (ok1 (decide_eq_false c7)), by intro q; cases q⟩
noncomputable def tollwayref50_Of (l_0 : (List Tapi_Charge)) (key_1 : (List UInt8)) : Option (Tapi_Charge × Bool) :=
  (lp (tollwayref50_Of_L1_step l_0 key_1) (0 : Nat)).bind fun qq => match qq with
  | Sum.inl o1 =>
    some ((⟨o1.1, o1.2.1, o1.2.2.1, o1.2.2.2.1, o1.2.2.2.2.1, o1.2.2.2.2.2.1, o1.2.2.2.2.2.2⟩ : Tapi_Charge), true)
  | Sum.inr (o1) =>
    some ((⟨([] : List UInt8), ([] : List UInt8), ([] : List UInt8), 0, 0, [], 0⟩ : Tapi_Charge), false)
theorem tollwayref50_Of_ret (l_0 : (List Tapi_Charge)) (key_1 : (List UInt8)) (r : (Tapi_Charge × Bool)) (h : tollwayref50_Of l_0 key_1 = some r) : Ret Tryz.prog G0 22 [.lst (fl Tapi_Charge.enc l_0) l_0.length, .str key_1] (.tup [.agg (Tapi_Charge.enc r.1), .bool r.2]) [] := by
  unfold tollwayref50_Of at h
  obtain ⟨qq, hl1, h⟩ := bind_some h
  rcases qq with o1 | o1
  · dsimp only at h
    obtain rfl := oI h
    exact Ret.of_view 400 (cs 3 [.fcut 1 .ret [(4, .ptr 0 0), (5, .bool true)] (tollwayref50_Of_L1_B l_0 key_1 (Sum.inl o1)) [0] [(0, .any), (1, .any), (4, .any), (6, .int .i64 (↑(0 : Nat) : Int))] [bS]]) [] (by kernel_rfl) (by kernel_rfl) (k2 (rfl : (.int .i64 0 : AV) = .int .i64 (↑(0 : Nat) : Int)) (ok1 (tollwayref50_Of_L1_does l_0 key_1 (s := (0 : Nat)) (r := Sum.inl o1) hl1)))
  · dsimp only at h
    obtain rfl := oI h
    exact Ret.nl 4 (r := .tup [.agg [.str [], .str [], .str [], .int .i64 0, .int .i64 0, .nils, .int .i64 0], .bool false]) (Ret.of_view 400 (cs 3 ((.fcut 1 (.exit 0) [(4, .ptr 0 0)] (tollwayref50_Of_L1_B l_0 key_1 (Sum.inr (o1))) [0] [(0, .any), (1, .any), (4, .any), (6, .int .i64 (↑(0 : Nat) : Int))] [bS]) :: (cs 3 []))) [] (by kernel_rfl) (by kernel_rfl) (k2 (rfl : (.int .i64 0 : AV) = .int .i64 (↑(0 : Nat) : Int)) (ok1 (tollwayref50_Of_L1_does l_0 key_1 (s := (0 : Nat)) (r := Sum.inr (o1)) hl1)))) rfl
noncomputable def tollwayref50_leaf (l_0 : (List Tapi_Charge)) (key_1 : (List UInt8)) : Option Int :=
  (tollwayref50_Of l_0 key_1).bind fun r1 =>
  if r1.2 = true then
    (tollwayref50_Describe r1.1).bind fun r4 =>
    (tollwayref08_Hash r4).bind fun r6 =>
    some r6
  else
    some 0
theorem tollwayref50_leaf_ret (l_0 : (List Tapi_Charge)) (key_1 : (List UInt8)) (r : Int) (h : tollwayref50_leaf l_0 key_1 = some r) : Ret Tryz.prog G0 39 [.lst (fl Tapi_Charge.enc l_0) l_0.length, .str key_1] (.int .u64 r) [] := by
  unfold tollwayref50_leaf at h
  obtain ⟨r1, h2, h⟩ := bind_some h
  rcases ite_some h with ⟨c3, h⟩ | ⟨c3, h⟩
  · obtain ⟨r4, h5, h⟩ := bind_some h
    obtain ⟨r6, h7, h⟩ := bind_some h
    obtain rfl := oI h
    exact Ret.of_view 400 (cs 3 ((.ret none [.any, .any] (.tup [.agg (Tapi_Charge.enc r1.1), .bool r1.2]) []) :: (cs 8 [.br false, oc, .ret none [.any] (.vec 0 r4.length 1) [(bV (u8s r4) 5)], .ret none [.lst (u8s r4) r4.length] (.int .u64 r6) [], oc]))) [] (by kernel_rfl) (by kernel_rfl) (k2 (tollwayref50_Of_ret l_0 key_1 r1 h2) (k2 ((not_f c3) : (!r1.2) = false) (k2 (tollwayref50_Describe_ret r1.1 r4 h5) (k2 (⟨rfl, rfl, u8s_length⟩ : (u8s r4) = (u8s r4) ∧ r4.length = r4.length ∧ List.length ((u8s r4) : List AV) = r4.length) (k2 (trivial : datBlks []) (ok1 (tollwayref08_Hash_ret r4 r6 h7)))))))
  · obtain rfl := oI h
    exact Ret.of_view 400 (cs 3 ((.ret none [.any, .any] (.tup [.agg (Tapi_Charge.enc r1.1), .bool r1.2]) []) :: (cs 8 [.br true, oc]))) [] (by kernel_rfl) (by kernel_rfl) (k2 (tollwayref50_Of_ret l_0 key_1 r1 h2) (ok1 ((not_t (eq_false_of_ne_true c3)) : (!r1.2) = true)))
end Go.Proofs.YtpadimnchmghpaaGreatDoor.Av
