import Derived.Test.YtpadimnchmghpaaGreatDoorN0
open Prod (fst)
open Int (tdiv tmod)
set_option maxHeartbeats 4000000
set_option maxRecDepth 100000
set_option linter.unusedVariables false
set_option linter.unusedSimpArgs false
namespace Go.Proofs.YtpadimnchmghpaaGreatDoor.Av
noncomputable section
open Go Go.Proofs
def dGJoin (a_0 : Int) (b_1 : Int) : Option Int :=
 (some (IntKind.wrap .u8 (Int.fdiv a_0 (2 ^ (min (Int.toNat 56) (IntKind.bits .u64)))))).bind fun y1 =>
 (some (IntKind.wrap .u8 (Int.fdiv a_0 (2 ^ (min (Int.toNat 48) (IntKind.bits .u64)))))).bind fun y3 =>
 (some (IntKind.wrap .u8 (Int.fdiv a_0 (2 ^ (min (Int.toNat 40) (IntKind.bits .u64)))))).bind fun y5 =>
 (some (IntKind.wrap .u8 (Int.fdiv a_0 (2 ^ (min (Int.toNat 32) (IntKind.bits .u64)))))).bind fun y7 =>
 (some (IntKind.wrap .u8 (Int.fdiv a_0 (2 ^ (min (Int.toNat 24) (IntKind.bits .u64)))))).bind fun y9 =>
 (some (IntKind.wrap .u8 (Int.fdiv a_0 (2 ^ (min (Int.toNat 16) (IntKind.bits .u64)))))).bind fun y11 =>
 (some (IntKind.wrap .u8 (Int.fdiv a_0 (2 ^ (min (Int.toNat 8) (IntKind.bits .u64)))))).bind fun y13 =>
 (some (IntKind.wrap .u8 (Int.fdiv a_0 (2 ^ (min (Int.toNat 0) (IntKind.bits .u64)))))).bind fun y15 =>
 (some (IntKind.wrap .u8 (Int.fdiv b_1 (2 ^ (min (Int.toNat 56) (IntKind.bits .u64)))))).bind fun y17 =>
 (some (IntKind.wrap .u8 (Int.fdiv b_1 (2 ^ (min (Int.toNat 48) (IntKind.bits .u64)))))).bind fun y19 =>
 (some (IntKind.wrap .u8 (Int.fdiv b_1 (2 ^ (min (Int.toNat 40) (IntKind.bits .u64)))))).bind fun y21 =>
 (some (IntKind.wrap .u8 (Int.fdiv b_1 (2 ^ (min (Int.toNat 32) (IntKind.bits .u64)))))).bind fun y23 =>
 (some (IntKind.wrap .u8 (Int.fdiv b_1 (2 ^ (min (Int.toNat 24) (IntKind.bits .u64)))))).bind fun y25 =>
 (some (IntKind.wrap .u8 (Int.fdiv b_1 (2 ^ (min (Int.toNat 16) (IntKind.bits .u64)))))).bind fun y27 =>
 (some (IntKind.wrap .u8 (Int.fdiv b_1 (2 ^ (min (Int.toNat 8) (IntKind.bits .u64)))))).bind fun y29 =>
 (some (IntKind.wrap .u8 (Int.fdiv b_1 (2 ^ (min (Int.toNat 0) (IntKind.bits .u64)))))).bind fun y31 =>
 if InR .u8 (y1) then
  if InR .u8 (y3) then
   if InR .u8 (y5) then
    if InR .u8 (y7) then
     if InR .u8 (y9) then
      if InR .u8 (y11) then
       if InR .u8 (y13) then
        if InR .u8 (y15) then
         if InR .u8 (y17) then
          if InR .u8 (y19) then
           if InR .u8 (y21) then
            if InR .u8 (y23) then
             if InR .u8 (y25) then
              if InR .u8 (y27) then
               if InR .u8 (y29) then
                if InR .u8 (y31) then
                 (dGHash ([(UInt8.ofNat y1.toNat), (UInt8.ofNat y3.toNat), (UInt8.ofNat y5.toNat), (UInt8.ofNat y7.toNat), (UInt8.ofNat y9.toNat), (UInt8.ofNat y11.toNat), (UInt8.ofNat y13.toNat), (UInt8.ofNat y15.toNat), (UInt8.ofNat y17.toNat), (UInt8.ofNat y19.toNat), (UInt8.ofNat y21.toNat), (UInt8.ofNat y23.toNat), (UInt8.ofNat y25.toNat), (UInt8.ofNat y27.toNat), (UInt8.ofNat y29.toNat), (UInt8.ofNat y31.toNat)] : List UInt8)).bind fun r49 =>
                 some r49
                else none
               else none
              else none
             else none
            else none
           else none
          else none
         else none
        else none
       else none
      else none
     else none
    else none
   else none
  else none
 else none
theorem dGJoin_ret (a_0 : Int) (b_1 : Int) (r : Int) (h : dGJoin a_0 b_1 = some r) : Ret Tryz.prog G0 124 [.int .u64 a_0, .int .u64 b_1] (.int .u64 r) [] := by
 unfold dGJoin at h
 obtain ⟨y1, h2, h⟩ := bnS h
 obtain ⟨y3, h4, h⟩ := bnS h
 obtain ⟨y5, h6, h⟩ := bnS h
 obtain ⟨y7, h8, h⟩ := bnS h
 obtain ⟨y9, h10, h⟩ := bnS h
 obtain ⟨y11, h12, h⟩ := bnS h
 obtain ⟨y13, h14, h⟩ := bnS h
 obtain ⟨y15, h16, h⟩ := bnS h
 obtain ⟨y17, h18, h⟩ := bnS h
 obtain ⟨y19, h20, h⟩ := bnS h
 obtain ⟨y21, h22, h⟩ := bnS h
 obtain ⟨y23, h24, h⟩ := bnS h
 obtain ⟨y25, h26, h⟩ := bnS h
 obtain ⟨y27, h28, h⟩ := bnS h
 obtain ⟨y29, h30, h⟩ := bnS h
 obtain ⟨y31, h32, h⟩ := bnS h
 obtain ⟨h33, h⟩ := gdS h
 obtain ⟨h34, h⟩ := gdS h
 obtain ⟨h35, h⟩ := gdS h
 obtain ⟨h36, h⟩ := gdS h
 obtain ⟨h37, h⟩ := gdS h
 obtain ⟨h38, h⟩ := gdS h
 obtain ⟨h39, h⟩ := gdS h
 obtain ⟨h40, h⟩ := gdS h
 obtain ⟨h41, h⟩ := gdS h
 obtain ⟨h42, h⟩ := gdS h
 obtain ⟨h43, h⟩ := gdS h
 obtain ⟨h44, h⟩ := gdS h
 obtain ⟨h45, h⟩ := gdS h
 obtain ⟨h46, h⟩ := gdS h
 obtain ⟨h47, h⟩ := gdS h
 obtain ⟨h48, h⟩ := gdS h
 obtain ⟨r49, h50, h⟩ := bnS h
 obtain rfl := oI h
 exact Ret.of_view 400 (cs 8 (bt :: (cs 5 (bt :: (cs 7 (oa :: oa :: (.tr (.eqt (.t 26) (.int .u8 y1))) :: oc :: (.op none (.ap 2)) :: (cs 4 (bt :: (cs 7 (oa :: oa :: (.tr (.eqt (.t 26) (.int .u8 y3))) :: oc :: (.op none (.ap 3)) :: (cs 4 (bt :: (cs 7 (oa :: oa :: (.tr (.eqt (.t 26) (.int .u8 y5))) :: oc :: (.op none (.ap 3)) :: (cs 4 (bt :: (cs 7 (oa :: oa :: (.tr (.eqt (.t 26) (.int .u8 y7))) :: oc :: (.op none (.ap 3)) :: (cs 4 (bt :: (cs 7 (oa :: oa :: (.tr (.eqt (.t 26) (.int .u8 y9))) :: oc :: (.op none (.ap 3)) :: (cs 4 (bt :: (cs 7 (oa :: oa :: (.tr (.eqt (.t 26) (.int .u8 y11))) :: oc :: (.op none (.ap 3)) :: (cs 4 (bt :: (cs 7 (oa :: oa :: (.tr (.eqt (.t 26) (.int .u8 y13))) :: oc :: (.op none (.ap 3)) :: (cs 4 (bt :: (cs 7 (oa :: oa :: (.tr (.eqt (.t 26) (.int .u8 y15))) :: oc :: (.op none (.ap 3)) :: (cs 4 (bf :: (cs 3 (bt :: (cs 5 (bt :: (cs 7 (oa :: oa :: (.tr (.eqt (.t 26) (.int .u8 y17))) :: oc :: (.op none (.ap 3)) :: (cs 4 (bt :: (cs 7 (oa :: oa :: (.tr (.eqt (.t 26) (.int .u8 y19))) :: oc :: (.op none (.ap 3)) :: (cs 4 (bt :: (cs 7 (oa :: oa :: (.tr (.eqt (.t 26) (.int .u8 y21))) :: oc :: (.op none (.ap 3)) :: (cs 4 (bt :: (cs 7 (oa :: oa :: (.tr (.eqt (.t 26) (.int .u8 y23))) :: oc :: (.op none (.ap 3)) :: (cs 4 (bt :: (cs 7 (oa :: oa :: (.tr (.eqt (.t 26) (.int .u8 y25))) :: oc :: (.op none (.ap 3)) :: (cs 4 (bt :: (cs 7 (oa :: oa :: (.tr (.eqt (.t 26) (.int .u8 y27))) :: oc :: (.op none (.ap 3)) :: (cs 4 (bt :: (cs 7 (oa :: oa :: (.tr (.eqt (.t 26) (.int .u8 y29))) :: oc :: (.op none (.ap 3)) :: (cs 4 (bt :: (cs 7 (oa :: oa :: (.tr (.eqt (.t 26) (.int .u8 y31))) :: oc :: (.op none (.ap 3)) :: (cs 4 (bf :: (cs 3 [.br false, oc, .tr (.eqc 32 (u8s ([(UInt8.ofNat y1.toNat), (UInt8.ofNat y3.toNat), (UInt8.ofNat y5.toNat), (UInt8.ofNat y7.toNat), (UInt8.ofNat y9.toNat), (UInt8.ofNat y11.toNat), (UInt8.ofNat y13.toNat), (UInt8.ofNat y15.toNat), (UInt8.ofNat y17.toNat), (UInt8.ofNat y19.toNat), (UInt8.ofNat y21.toNat), (UInt8.ofNat y23.toNat), (UInt8.ofNat y25.toNat), (UInt8.ofNat y27.toNat), (UInt8.ofNat y29.toNat), (UInt8.ofNat y31.toNat)] : List UInt8))), .ret none [.lst (u8s ([(UInt8.ofNat y1.toNat), (UInt8.ofNat y3.toNat), (UInt8.ofNat y5.toNat), (UInt8.ofNat y7.toNat), (UInt8.ofNat y9.toNat), (UInt8.ofNat y11.toNat), (UInt8.ofNat y13.toNat), (UInt8.ofNat y15.toNat), (UInt8.ofNat y17.toNat), (UInt8.ofNat y19.toNat), (UInt8.ofNat y21.toNat), (UInt8.ofNat y23.toNat), (UInt8.ofNat y25.toNat), (UInt8.ofNat y27.toNat), (UInt8.ofNat y29.toNat), (UInt8.ofNat y31.toNat)] : List UInt8)) 16] (.int .u64 r49) [], oc]))))))))))))))))))))))))))))))))))))))))))))))))))))))))))))))))))))))))) [] (by kernel_rfl) (by kernel_rfl) (k2 (rfl : true = true) (k2 (rfl : true = true) (k2 ((by decide) : (0 : Int) ≤ 56) (k2 ((congrArg _ (Option.some.inj h2)) : (.int .u8 (IntKind.wrap .u8 (Int.fdiv a_0 (2 ^ (min (Int.toNat 56) (IntKind.bits .u64))))) : AV) = .int .u8 y1) (k2 ((nB rfl) : 0 + 1 ≤ List.length ([.int .u8 y1] : List AV)) (k2 ((by decide) : 0 < 1) (k2 ((by decide) : 1 ≤ 4294967296) (k2 (rfl : true = true) (k2 ((by decide) : (0 : Int) ≤ 48) (k2 ((congrArg _ (Option.some.inj h4)) : (.int .u8 (IntKind.wrap .u8 (Int.fdiv a_0 (2 ^ (min (Int.toNat 48) (IntKind.bits .u64))))) : AV) = .int .u8 y3) (k2 ((nB rfl) : 0 + 1 ≤ List.length ([.int .u8 y3] : List AV)) (k2 ((by decide) : 0 < 1) (k2 (rfl : List.length ([.int .u8 y1] : List AV) = 1) (k2 ((by simp [AV.one]) : List.all ([.int .u8 y3] : List AV) AV.one = true) (k2 ((by decide) : 1 + 1 ≤ 4294967296) (k2 (rfl : true = true) (k2 ((by decide) : (0 : Int) ≤ 40) (k2 ((congrArg _ (Option.some.inj h6)) : (.int .u8 (IntKind.wrap .u8 (Int.fdiv a_0 (2 ^ (min (Int.toNat 40) (IntKind.bits .u64))))) : AV) = .int .u8 y5) (k2 ((nB rfl) : 0 + 1 ≤ List.length ([.int .u8 y5] : List AV)) (k2 ((by decide) : 0 < 1) (k2 (rfl : List.length ([.int .u8 y1, .int .u8 y3] : List AV) = 2) (k2 ((by simp [AV.one]) : List.all ([.int .u8 y5] : List AV) AV.one = true) (k2 ((by decide) : 2 + 1 ≤ 4294967296) (k2 (rfl : true = true) (k2 ((by decide) : (0 : Int) ≤ 32) (k2 ((congrArg _ (Option.some.inj h8)) : (.int .u8 (IntKind.wrap .u8 (Int.fdiv a_0 (2 ^ (min (Int.toNat 32) (IntKind.bits .u64))))) : AV) = .int .u8 y7) (k2 ((nB rfl) : 0 + 1 ≤ List.length ([.int .u8 y7] : List AV)) (k2 ((by decide) : 0 < 1) (k2 (rfl : List.length ([.int .u8 y1, .int .u8 y3, .int .u8 y5] : List AV) = 3) (k2 ((by simp [AV.one]) : List.all ([.int .u8 y7] : List AV) AV.one = true) (k2 ((by decide) : 3 + 1 ≤ 4294967296) (k2 (rfl : true = true) (k2 ((by decide) : (0 : Int) ≤ 24) (k2 ((congrArg _ (Option.some.inj h10)) : (.int .u8 (IntKind.wrap .u8 (Int.fdiv a_0 (2 ^ (min (Int.toNat 24) (IntKind.bits .u64))))) : AV) = .int .u8 y9) (k2 ((nB rfl) : 0 + 1 ≤ List.length ([.int .u8 y9] : List AV)) (k2 ((by decide) : 0 < 1) (k2 (rfl : List.length ([.int .u8 y1, .int .u8 y3, .int .u8 y5, .int .u8 y7] : List AV) = 4) (k2 ((by simp [AV.one]) : List.all ([.int .u8 y9] : List AV) AV.one = true) (k2 ((by decide) : 4 + 1 ≤ 4294967296) (k2 (rfl : true = true) (k2 ((by decide) : (0 : Int) ≤ 16) (k2 ((congrArg _ (Option.some.inj h12)) : (.int .u8 (IntKind.wrap .u8 (Int.fdiv a_0 (2 ^ (min (Int.toNat 16) (IntKind.bits .u64))))) : AV) = .int .u8 y11) (k2 ((nB rfl) : 0 + 1 ≤ List.length ([.int .u8 y11] : List AV)) (k2 ((by decide) : 0 < 1) (k2 (rfl : List.length ([.int .u8 y1, .int .u8 y3, .int .u8 y5, .int .u8 y7, .int .u8 y9] : List AV) = 5) (k2 ((by simp [AV.one]) : List.all ([.int .u8 y11] : List AV) AV.one = true) (k2 ((by decide) : 5 + 1 ≤ 4294967296) (k2 (rfl : true = true) (k2 ((by decide) : (0 : Int) ≤ 8) (k2 ((congrArg _ (Option.some.inj h14)) : (.int .u8 (IntKind.wrap .u8 (Int.fdiv a_0 (2 ^ (min (Int.toNat 8) (IntKind.bits .u64))))) : AV) = .int .u8 y13) (k2 ((nB rfl) : 0 + 1 ≤ List.length ([.int .u8 y13] : List AV)) (k2 ((by decide) : 0 < 1) (k2 (rfl : List.length ([.int .u8 y1, .int .u8 y3, .int .u8 y5, .int .u8 y7, .int .u8 y9, .int .u8 y11] : List AV) = 6) (k2 ((by simp [AV.one]) : List.all ([.int .u8 y13] : List AV) AV.one = true) (k2 ((by decide) : 6 + 1 ≤ 4294967296) (k2 (rfl : true = true) (k2 ((by decide) : (0 : Int) ≤ 0) (k2 ((congrArg _ (Option.some.inj h16)) : (.int .u8 (IntKind.wrap .u8 (Int.fdiv a_0 (2 ^ (min (Int.toNat 0) (IntKind.bits .u64))))) : AV) = .int .u8 y15) (k2 ((nB rfl) : 0 + 1 ≤ List.length ([.int .u8 y15] : List AV)) (k2 ((by decide) : 0 < 1) (k2 (rfl : List.length ([.int .u8 y1, .int .u8 y3, .int .u8 y5, .int .u8 y7, .int .u8 y9, .int .u8 y11, .int .u8 y13] : List AV) = 7) (k2 ((by simp [AV.one]) : List.all ([.int .u8 y15] : List AV) AV.one = true) (k2 ((by decide) : 7 + 1 ≤ 4294967296) (k2 (rfl : false = false) (k2 (rfl : true = true) (k2 (rfl : true = true) (k2 ((by decide) : (0 : Int) ≤ 56) (k2 ((congrArg _ (Option.some.inj h18)) : (.int .u8 (IntKind.wrap .u8 (Int.fdiv b_1 (2 ^ (min (Int.toNat 56) (IntKind.bits .u64))))) : AV) = .int .u8 y17) (k2 ((nB rfl) : 0 + 1 ≤ List.length ([.int .u8 y17] : List AV)) (k2 ((by decide) : 0 < 1) (k2 (rfl : List.length ([.int .u8 y1, .int .u8 y3, .int .u8 y5, .int .u8 y7, .int .u8 y9, .int .u8 y11, .int .u8 y13, .int .u8 y15] : List AV) = 8) (k2 ((by simp [AV.one]) : List.all ([.int .u8 y17] : List AV) AV.one = true) (k2 ((by decide) : 8 + 1 ≤ 4294967296) (k2 (rfl : true = true) (k2 ((by decide) : (0 : Int) ≤ 48) (k2 ((congrArg _ (Option.some.inj h20)) : (.int .u8 (IntKind.wrap .u8 (Int.fdiv b_1 (2 ^ (min (Int.toNat 48) (IntKind.bits .u64))))) : AV) = .int .u8 y19) (k2 ((nB rfl) : 0 + 1 ≤ List.length ([.int .u8 y19] : List AV)) (k2 ((by decide) : 0 < 1) (k2 (rfl : List.length ([.int .u8 y1, .int .u8 y3, .int .u8 y5, .int .u8 y7, .int .u8 y9, .int .u8 y11, .int .u8 y13, .int .u8 y15, .int .u8 y17] : List AV) = 9) (k2 ((by simp [AV.one]) : List.all ([.int .u8 y19] : List AV) AV.one = true) (k2 ((by decide) : 9 + 1 ≤ 4294967296) (k2 (rfl : true = true) (k2 ((by decide) : (0 : Int) ≤ 40) (k2 ((congrArg _ (Option.some.inj h22)) : (.int .u8 (IntKind.wrap .u8 (Int.fdiv b_1 (2 ^ (min (Int.toNat 40) (IntKind.bits .u64))))) : AV) = .int .u8 y21) (k2 ((nB rfl) : 0 + 1 ≤ List.length ([.int .u8 y21] : List AV)) (k2 ((by decide) : 0 < 1) (k2 (rfl : List.length ([.int .u8 y1, .int .u8 y3, .int .u8 y5, .int .u8 y7, .int .u8 y9, .int .u8 y11, .int .u8 y13, .int .u8 y15, .int .u8 y17, .int .u8 y19] : List AV) = 10) (k2 ((by simp [AV.one]) : List.all ([.int .u8 y21] : List AV) AV.one = true) (k2 ((by decide) : 10 + 1 ≤ 4294967296) (k2 (rfl : true = true) (k2 ((by decide) : (0 : Int) ≤ 32) (k2 ((congrArg _ (Option.some.inj h24)) : (.int .u8 (IntKind.wrap .u8 (Int.fdiv b_1 (2 ^ (min (Int.toNat 32) (IntKind.bits .u64))))) : AV) = .int .u8 y23) (k2 ((nB rfl) : 0 + 1 ≤ List.length ([.int .u8 y23] : List AV)) (k2 ((by decide) : 0 < 1) (k2 (rfl : List.length ([.int .u8 y1, .int .u8 y3, .int .u8 y5, .int .u8 y7, .int .u8 y9, .int .u8 y11, .int .u8 y13, .int .u8 y15, .int .u8 y17, .int .u8 y19, .int .u8 y21] : List AV) = 11) (k2 ((by simp [AV.one]) : List.all ([.int .u8 y23] : List AV) AV.one = true) (k2 ((by decide) : 11 + 1 ≤ 4294967296) (k2 (rfl : true = true) (k2 ((by decide) : (0 : Int) ≤ 24) (k2 ((congrArg _ (Option.some.inj h26)) : (.int .u8 (IntKind.wrap .u8 (Int.fdiv b_1 (2 ^ (min (Int.toNat 24) (IntKind.bits .u64))))) : AV) = .int .u8 y25) (k2 ((nB rfl) : 0 + 1 ≤ List.length ([.int .u8 y25] : List AV)) (k2 ((by decide) : 0 < 1) (k2 (rfl : List.length ([.int .u8 y1, .int .u8 y3, .int .u8 y5, .int .u8 y7, .int .u8 y9, .int .u8 y11, .int .u8 y13, .int .u8 y15, .int .u8 y17, .int .u8 y19, .int .u8 y21, .int .u8 y23] : List AV) = 12) (k2 ((by simp [AV.one]) : List.all ([.int .u8 y25] : List AV) AV.one = true) (k2 ((by decide) : 12 + 1 ≤ 4294967296) (k2 (rfl : true = true) (k2 ((by decide) : (0 : Int) ≤ 16) (k2 ((congrArg _ (Option.some.inj h28)) : (.int .u8 (IntKind.wrap .u8 (Int.fdiv b_1 (2 ^ (min (Int.toNat 16) (IntKind.bits .u64))))) : AV) = .int .u8 y27) (k2 ((nB rfl) : 0 + 1 ≤ List.length ([.int .u8 y27] : List AV)) (k2 ((by decide) : 0 < 1) (k2 (rfl : List.length ([.int .u8 y1, .int .u8 y3, .int .u8 y5, .int .u8 y7, .int .u8 y9, .int .u8 y11, .int .u8 y13, .int .u8 y15, .int .u8 y17, .int .u8 y19, .int .u8 y21, .int .u8 y23, .int .u8 y25] : List AV) = 13) (k2 ((by simp [AV.one]) : List.all ([.int .u8 y27] : List AV) AV.one = true) (k2 ((by decide) : 13 + 1 ≤ 4294967296) (k2 (rfl : true = true) (k2 ((by decide) : (0 : Int) ≤ 8) (k2 ((congrArg _ (Option.some.inj h30)) : (.int .u8 (IntKind.wrap .u8 (Int.fdiv b_1 (2 ^ (min (Int.toNat 8) (IntKind.bits .u64))))) : AV) = .int .u8 y29) (k2 ((nB rfl) : 0 + 1 ≤ List.length ([.int .u8 y29] : List AV)) (k2 ((by decide) : 0 < 1) (k2 (rfl : List.length ([.int .u8 y1, .int .u8 y3, .int .u8 y5, .int .u8 y7, .int .u8 y9, .int .u8 y11, .int .u8 y13, .int .u8 y15, .int .u8 y17, .int .u8 y19, .int .u8 y21, .int .u8 y23, .int .u8 y25, .int .u8 y27] : List AV) = 14) (k2 ((by simp [AV.one]) : List.all ([.int .u8 y29] : List AV) AV.one = true) (k2 ((by decide) : 14 + 1 ≤ 4294967296) (k2 (rfl : true = true) (k2 ((by decide) : (0 : Int) ≤ 0) (k2 ((congrArg _ (Option.some.inj h32)) : (.int .u8 (IntKind.wrap .u8 (Int.fdiv b_1 (2 ^ (min (Int.toNat 0) (IntKind.bits .u64))))) : AV) = .int .u8 y31) (k2 ((nB rfl) : 0 + 1 ≤ List.length ([.int .u8 y31] : List AV)) (k2 ((by decide) : 0 < 1) (k2 (rfl : List.length ([.int .u8 y1, .int .u8 y3, .int .u8 y5, .int .u8 y7, .int .u8 y9, .int .u8 y11, .int .u8 y13, .int .u8 y15, .int .u8 y17, .int .u8 y19, .int .u8 y21, .int .u8 y23, .int .u8 y25, .int .u8 y27, .int .u8 y29] : List AV) = 15) (k2 ((by simp [AV.one]) : List.all ([.int .u8 y31] : List AV) AV.one = true) (k2 ((by decide) : 15 + 1 ≤ 4294967296) (k2 (rfl : false = false) (k2 (rfl : false = false) (k2 ((by simp only [u8s, List.map, ← u8_of h33, ← u8_of h34, ← u8_of h35, ← u8_of h36, ← u8_of h37, ← u8_of h38, ← u8_of h39, ← u8_of h40, ← u8_of h41, ← u8_of h42, ← u8_of h43, ← u8_of h44, ← u8_of h45, ← u8_of h46, ← u8_of h47, ← u8_of h48]) : [.int .u8 y1, .int .u8 y3, .int .u8 y5, .int .u8 y7, .int .u8 y9, .int .u8 y11, .int .u8 y13, .int .u8 y15, .int .u8 y17, .int .u8 y19, .int .u8 y21, .int .u8 y23, .int .u8 y25, .int .u8 y27, .int .u8 y29, .int .u8 y31] = (u8s ([(UInt8.ofNat y1.toNat), (UInt8.ofNat y3.toNat), (UInt8.ofNat y5.toNat), (UInt8.ofNat y7.toNat), (UInt8.ofNat y9.toNat), (UInt8.ofNat y11.toNat), (UInt8.ofNat y13.toNat), (UInt8.ofNat y15.toNat), (UInt8.ofNat y17.toNat), (UInt8.ofNat y19.toNat), (UInt8.ofNat y21.toNat), (UInt8.ofNat y23.toNat), (UInt8.ofNat y25.toNat), (UInt8.ofNat y27.toNat), (UInt8.ofNat y29.toNat), (UInt8.ofNat y31.toNat)] : List UInt8))) (k2 (⟨rfl, rfl, nB rfl, nB rfl⟩ : sub (u8s ([(UInt8.ofNat y1.toNat), (UInt8.ofNat y3.toNat), (UInt8.ofNat y5.toNat), (UInt8.ofNat y7.toNat), (UInt8.ofNat y9.toNat), (UInt8.ofNat y11.toNat), (UInt8.ofNat y13.toNat), (UInt8.ofNat y15.toNat), (UInt8.ofNat y17.toNat), (UInt8.ofNat y19.toNat), (UInt8.ofNat y21.toNat), (UInt8.ofNat y23.toNat), (UInt8.ofNat y25.toNat), (UInt8.ofNat y27.toNat), (UInt8.ofNat y29.toNat), (UInt8.ofNat y31.toNat)] : List UInt8)) 0 16 = (u8s ([(UInt8.ofNat y1.toNat), (UInt8.ofNat y3.toNat), (UInt8.ofNat y5.toNat), (UInt8.ofNat y7.toNat), (UInt8.ofNat y9.toNat), (UInt8.ofNat y11.toNat), (UInt8.ofNat y13.toNat), (UInt8.ofNat y15.toNat), (UInt8.ofNat y17.toNat), (UInt8.ofNat y19.toNat), (UInt8.ofNat y21.toNat), (UInt8.ofNat y23.toNat), (UInt8.ofNat y25.toNat), (UInt8.ofNat y27.toNat), (UInt8.ofNat y29.toNat), (UInt8.ofNat y31.toNat)] : List UInt8)) ∧ 16 = 16 ∧ 0 + 16 ≤ List.length ((u8s ([(UInt8.ofNat y1.toNat), (UInt8.ofNat y3.toNat), (UInt8.ofNat y5.toNat), (UInt8.ofNat y7.toNat), (UInt8.ofNat y9.toNat), (UInt8.ofNat y11.toNat), (UInt8.ofNat y13.toNat), (UInt8.ofNat y15.toNat), (UInt8.ofNat y17.toNat), (UInt8.ofNat y19.toNat), (UInt8.ofNat y21.toNat), (UInt8.ofNat y23.toNat), (UInt8.ofNat y25.toNat), (UInt8.ofNat y27.toNat), (UInt8.ofNat y29.toNat), (UInt8.ofNat y31.toNat)] : List UInt8)) : List AV) ∧ 16 ≤ 16) (k2 (trivial : datBlks []) (ok1 (dGHash_ret ([(UInt8.ofNat y1.toNat), (UInt8.ofNat y3.toNat), (UInt8.ofNat y5.toNat), (UInt8.ofNat y7.toNat), (UInt8.ofNat y9.toNat), (UInt8.ofNat y11.toNat), (UInt8.ofNat y13.toNat), (UInt8.ofNat y15.toNat), (UInt8.ofNat y17.toNat), (UInt8.ofNat y19.toNat), (UInt8.ofNat y21.toNat), (UInt8.ofNat y23.toNat), (UInt8.ofNat y25.toNat), (UInt8.ofNat y27.toNat), (UInt8.ofNat y29.toNat), (UInt8.ofNat y31.toNat)] : List UInt8) r49 h50))))))))))))))))))))))))))))))))))))))))))))))))))))))))))))))))))))))))))))))))))))))))))))))))))))))))))))))))))))))))))))))))))))))))
def dGabove_L3_step (l_0 : (List Int)) : (Nat × (List Int)) → Option ((Nat × (List Int)) ⊕ (List Int))
 | (k9, b0) =>
  if (↑k9 : Int) < (tdiv ((↑l_0.length : Int) + 1) 2) then
   if InR .i64 (2 * (↑k9 : Int)) then
    if InR .i64 ((2 * (↑k9 : Int)) + 1) then
     if ((2 * (↑k9 : Int)) + 1) = (↑l_0.length : Int) then
      if (0 : Int) ≤ (2 * (↑k9 : Int)) then
       (l_0[(Int.toNat (2 * (↑k9 : Int)))]?).bind fun x28 =>
       if b0.length + 1 ≤ 4294967296 then
        if InR .i64 ((↑k9 : Int) + 1) then
         some (Sum.inl ((k9 + 1), (b0 ++ [x28])))
        else none
       else none
      else none
     else
      if (0 : Int) ≤ (2 * (↑k9 : Int)) then
       (l_0[(Int.toNat (2 * (↑k9 : Int)))]?).bind fun x33 =>
       if (0 : Int) ≤ ((2 * (↑k9 : Int)) + 1) then
        (l_0[(Int.toNat ((2 * (↑k9 : Int)) + 1))]?).bind fun x36 =>
        (dGJoin x33 x36).bind fun r38 =>
        if b0.length + 1 ≤ 4294967296 then
         if InR .i64 ((↑k9 : Int) + 1) then
          some (Sum.inl ((k9 + 1), (b0 ++ [r38])))
         else none
        else none
       else none
      else none
    else none
   else none
  else
   some (Sum.inr b0)
def dGabove_L3_H (l_0 : (List Int)) : (Nat × (List Int)) → St := fun (s : (Nat × (List Int))) => S 43 [(0, .lst (fl e_u64 l_0) l_0.length), (3, .vec 0 s.2.length 1), (8, .int .i64 (tdiv ((↑l_0.length : Int) + 1) 2)), (9, .int .i64 (↑s.1 : Int))] [(bV (fl e_u64 s.2) 41)]
def dGabove_L3_X (l_0 : (List Int)) : (List Int) → AEx := fun o => (.exit 0)
def dGabove_L3_T (l_0 : (List Int)) : (List Int) → List (Nat × AV) := fun o => [(3, .vec 0 o.length 1)]
def dGabove_L3_B (l_0 : (List Int)) : (List Int) → List Blk := fun o => [(bV (fl e_u64 o) 41)]
def dGabove_L3_E (l_0 : (List Int)) (q : (List Int)) : St := S 43 (dGabove_L3_T l_0 q) (dGabove_L3_B l_0 q)
theorem dGabove_L3_does (l_0 : (List Int)) {s : (Nat × (List Int))} {r : (List Int)} (h : lp (dGabove_L3_step l_0) s = some r) : Does Tryz.prog G0 0 (.loop (bodyAt Tryz.prog 87 [1, 1, 0, 1, 0, 0])) (dGabove_L3_H l_0 s) (dGabove_L3_X l_0 r) (dGabove_L3_E l_0 r) := by
 refine Does.lp (H := dGabove_L3_H l_0) (X := dGabove_L3_X l_0) (E := dGabove_L3_E l_0) (fun s s2 h => ?_) (fun s r h => ?_) h
 ·obtain ⟨k9, b0⟩ := s
  unfold dGabove_L3_step at h
  try dsimp only at h
  rcases itS h with ⟨c23, h⟩ | ⟨c23, h⟩
  ·obtain ⟨h24, h⟩ := gdS h
   obtain ⟨h25, h⟩ := gdS h
   let f4 : List CH := (oa :: bt :: (cs 3 (ow :: ow :: (cs 2 [oa]))))
   have g5 := k2 (dT c23) (k2 h24 (ok1 h25))
   rcases itS h with ⟨c26, h⟩ | ⟨c26, h⟩
   ·obtain ⟨h27, h⟩ := gdS h
    obtain ⟨x28, h29, h⟩ := bnS h
    obtain ⟨h30, h⟩ := gdS h
    obtain ⟨h31, h⟩ := gdS h
    obtain rfl := oL h
    exact Does.of_viewM 0 400 (f4 ++ (bt :: (cs 3 [ow, .op none (.i (Int.toNat (2 * (↑k9 : Int)))), .op none (.v [.int .u64 x28]), oc, .op none (.ap 4), .tr (.eqc 2 (fl e_u64 (b0 ++ [x28]))), .tr (.eqt (.t 25) (.vec 2 ((b0 ++ [x28]).length) 1)), oc, ow, oc]))) [2] (by kernel_rfl) (by kernel_rfl) (aO g5 (k2 (beq_t c26) (k2 h24 (k2 (ix h27 h29) (k2 (fl_ne (f := e_u64) (z := 0) (fun _ => rfl) h29) (k2 (s_u64 h29) (k2 ((nB rfl) : 0 + 1 ≤ List.length ([.int .u64 x28] : List AV)) (k2 ((fl_length1 (f := e_u64) (fun _ => rfl) _) : List.length ((fl e_u64 b0) : List AV) = b0.length) (k2 (rfl : List.all ([.int .u64 x28] : List AV) AV.one = true) (k2 h30 (k2 ((fl_snoc rfl) : (fl e_u64 b0) ++ [.int .u64 x28] = (fl e_u64 (b0 ++ [x28]))) (k2 ((by simp <;> omega) : (.vec 2 (b0.length + 1) 1 : AV) = .vec 2 ((b0 ++ [x28]).length) 1) (ok1 h31)))))))))))))
   ·obtain ⟨h32, h⟩ := gdS h
    obtain ⟨x33, h34, h⟩ := bnS h
    obtain ⟨h35, h⟩ := gdS h
    obtain ⟨x36, h37, h⟩ := bnS h
    obtain ⟨r38, h39, h⟩ := bnS h
    obtain ⟨h40, h⟩ := gdS h
    obtain ⟨h41, h⟩ := gdS h
    obtain rfl := oL h
    exact Does.of_viewM 0 400 (f4 ++ (bf :: (cs 3 (ow :: (.op none (.i (Int.toNat (2 * (↑k9 : Int))))) :: (.op none (.v [.int .u64 x33])) :: (cs 2 [ow, ow, .op none (.i (Int.toNat ((2 * (↑k9 : Int)) + 1))), .op none (.v [.int .u64 x36]), .ret none [.any, .any] (.int .u64 r38) [], oc, .op none (.ap 4), .trp (.eqc 2 (fl e_u64 (b0 ++ [r38]))), .trp (.eqt (.t 40) (.vec 2 ((b0 ++ [r38]).length) 1)), oc, ow, oc]))))) [2] (by kernel_rfl) (by kernel_rfl) (aO g5 (k2 (beq_f c26) (k2 h24 (k2 (ix h32 h34) (k2 (fl_ne (f := e_u64) (z := 0) (fun _ => rfl) h34) (k2 (s_u64 h34) (k2 h24 (k2 h25 (k2 (ix h35 h37) (k2 (fl_ne (f := e_u64) (z := 0) (fun _ => rfl) h37) (k2 (s_u64 h37) (k2 (dGJoin_ret x33 x36 r38 h39) (k2 ((nB rfl) : 0 + 1 ≤ List.length ([.int .u64 r38] : List AV)) (k2 ((fl_length1 (f := e_u64) (fun _ => rfl) _) : List.length ((fl e_u64 b0) : List AV) = b0.length) (k2 (rfl : List.all ([.int .u64 r38] : List AV) AV.one = true) (k2 h40 (k2 ((fl_snoc rfl) : (fl e_u64 b0) ++ [.int .u64 r38] = (fl e_u64 (b0 ++ [r38]))) (k2 ((by simp <;> omega) : (.vec 2 (b0.length + 1) 1 : AV) = .vec 2 ((b0 ++ [r38]).length) 1) (k2 (⟨rfl, trivial⟩ : (some (Ob.blk (bT [.int .u64 r38] 41)) = some (Ob.blk (bT [.int .u64 r38] 41))) ∧ True) (ok1 h41))))))))))))))))))))
  ·simp at h
 ·obtain ⟨k9, b0⟩ := s
  unfold dGabove_L3_step at h
  try dsimp only at h
  rcases itS h with ⟨c23, h⟩ | ⟨c23, h⟩
  ·obtain ⟨h24, h⟩ := gdS h
   obtain ⟨h25, h⟩ := gdS h
   rcases itS h with ⟨c26, h⟩ | ⟨c26, h⟩
   ·obtain ⟨h27, h⟩ := gdS h
    obtain ⟨x28, h29, h⟩ := bnS h
    obtain ⟨h30, h⟩ := gdS h
    obtain ⟨h31, h⟩ := gdS h
    simp at h
   ·obtain ⟨h32, h⟩ := gdS h
    obtain ⟨x33, h34, h⟩ := bnS h
    obtain ⟨h35, h⟩ := gdS h
    obtain ⟨x36, h37, h⟩ := bnS h
    obtain ⟨r38, h39, h⟩ := bnS h
    obtain ⟨h40, h⟩ := gdS h
    obtain ⟨h41, h⟩ := gdS h
    simp at h
  ·obtain rfl := oR h
   exact ⟨Does.of_viewM 0 400 [oa, .br false] [0] (by kernel_rfl) (by kernel_rfl) (ok1 (dF c23)), by intro q; cases q⟩
def dGabove (l_0 : (List Int)) : Option (List Int) :=
 if InR .i64 ((↑l_0.length : Int) + 1) then
  if InR .i64 (tdiv ((↑l_0.length : Int) + 1) 2) then
   (lp (dGabove_L3_step l_0) ((0 : Nat), ([] : (List Int)))).bind fun o3 =>
   some o3
  else none
 else none
theorem dGabove_ret (l_0 : (List Int)) (r : (List Int)) (h : dGabove l_0 = some r) : Ret Tryz.prog G0 87 [.lst (fl e_u64 l_0) l_0.length] (.vec 0 r.length 1) [(bV (fl e_u64 r) 41)] := by
 unfold dGabove at h
 obtain ⟨h1, h⟩ := gdS h
 obtain ⟨h2, h⟩ := gdS h
 obtain ⟨o3, hl3, h⟩ := bnS h
 obtain rfl := oI h
 exact Ret.of_view 400 (cs 4 (ow :: ow :: oc :: (.tr (.vec (.t 3) 1 41)) :: (.fcut 0 (.exit 0) [(3, .vec 0 o3.length 1)] [(bV (fl e_u64 o3) 41)] [0] [(0, .any), (3, .vec 0 (([] : (List Int)).length) 1), (8, .any), (9, jI (↑(0 : Nat) : Int))] [(bV (fl e_u64 ([] : (List Int))) 41)]) :: (cs 2 []))) [1] (by kernel_rfl) (by kernel_rfl) (k2 h1 (k2 ((by decide) : 2 ≠ (0 : Int)) (k2 h2 (k2 ((by first | rfl | simp only [List.length_replicate, List.length_set]) : (.vec 0 0 1 : AV) = .vec 0 (([] : (List Int)).length) 1) (k2 (rfl : (jI 0 : AV) = jI (↑(0 : Nat) : Int)) (k2 (rfl : ((bV [] 41) : Blk) = renB [0] (bV (fl e_u64 ([] : (List Int))) 41)) (ok1 (dGabove_L3_does l_0 (s := ((0 : Nat), ([] : (List Int)))) (r := o3) hl3))))))))
def dGlevels_L1_step  : ((List Int) × (List (List Int))) → Option (((List Int) × (List (List Int))) ⊕ (List (List Int)))
 | (v0, b0) =>
  if (↑v0.length : Int) > (1 : Int) then
   (dGabove v0).bind fun r7 =>
   if b0.length + 1 ≤ 4294967296 then
    some (Sum.inl (r7, (b0 ++ [r7])))
   else none
  else
   some (Sum.inr b0)
def dGlevels_L1_H  : ((List Int) × (List (List Int))) → St := fun (s : ((List Int) × (List (List Int)))) => S 16 [(0, .lst (fl e_u64 s.1) s.1.length), (3, .vec 0 s.2.length 1)] [(bV (fl (e_lst e_u64) s.2) 26)]
def dGlevels_L1_X  : (List (List Int)) → AEx := fun o => (.exit 0)
def dGlevels_L1_T  : (List (List Int)) → List (Nat × AV) := fun o => [(3, .vec 0 o.length 1)]
def dGlevels_L1_B  : (List (List Int)) → List Blk := fun o => [(bV (fl (e_lst e_u64) o) 26)]
def dGlevels_L1_E  (q : (List (List Int))) : St := S 16 (dGlevels_L1_T  q) (dGlevels_L1_B  q)
theorem dGlevels_L1_does  {s : ((List Int) × (List (List Int)))} {r : (List (List Int))} (h : lp (dGlevels_L1_step ) s = some r) : Does Tryz.prog G0 0 (.loop (bodyAt Tryz.prog 61 [1, 1, 0, 0, 0])) (dGlevels_L1_H  s) (dGlevels_L1_X  r) (dGlevels_L1_E  r) := by
 refine Does.lp (H := dGlevels_L1_H ) (X := dGlevels_L1_X ) (E := dGlevels_L1_E ) (fun s s2 h => ?_) (fun s r h => ?_) h
 ·obtain ⟨v0, b0⟩ := s
  unfold dGlevels_L1_step at h
  try dsimp only at h
  rcases itS h with ⟨c6, h⟩ | ⟨c6, h⟩
  ·obtain ⟨r7, h8, h⟩ := bnS h
   obtain ⟨h9, h⟩ := gdS h
   obtain rfl := oL h
   exact Does.of_viewM 0 400 (cs 2 (oa :: bt :: oc :: (.ret none [.any] (.vec 0 r7.length 1) [(bV (fl e_u64 r7) 41)]) :: (cs 3 [.tr (.frz [.t 0, .t 10, .t 12] (fl e_u64 r7) r7.length), oc, .op none (.ap 4), .tr (.eqc 3 (fl (e_lst e_u64) (b0 ++ [r7]))), .tr (.eqt (.t 14) (.vec 3 ((b0 ++ [r7]).length) 1)), oc]))) [3] (by kernel_rfl) (by kernel_rfl) (k2 (dT c6) (k2 (dGabove_ret v0 r7 h8) (k2 (⟨rfl, rfl, rfl, (fl_length1 (f := e_u64) (fun _ => rfl) _)⟩ : 1 = 1 ∧ (fl e_u64 r7) = (fl e_u64 r7) ∧ r7.length = r7.length ∧ List.length ((fl e_u64 r7) : List AV) = r7.length) (k2 (⟨rfl, rfl, rfl, (fl_length1 (f := e_u64) (fun _ => rfl) _)⟩ : 1 = 1 ∧ (fl e_u64 r7) = (fl e_u64 r7) ∧ r7.length = r7.length ∧ List.length ((fl e_u64 r7) : List AV) = r7.length) (k2 (⟨rfl, rfl, rfl, (fl_length1 (f := e_u64) (fun _ => rfl) _)⟩ : 1 = 1 ∧ (fl e_u64 r7) = (fl e_u64 r7) ∧ r7.length = r7.length ∧ List.length ((fl e_u64 r7) : List AV) = r7.length) (k2 ((nB rfl) : 0 + 1 ≤ List.length ([.lst (fl e_u64 r7) r7.length] : List AV)) (k2 ((fl_length1 (f := (e_lst e_u64)) (fun _ => rfl) _) : List.length ((fl (e_lst e_u64) b0) : List AV) = b0.length) (k2 (rfl : List.all ([.lst (fl e_u64 r7) r7.length] : List AV) AV.one = true) (k2 h9 (k2 ((fl_snoc rfl) : (fl (e_lst e_u64) b0) ++ [.lst (fl e_u64 r7) r7.length] = (fl (e_lst e_u64) (b0 ++ [r7]))) (ok1 ((by simp <;> omega) : (.vec 3 (b0.length + 1) 1 : AV) = .vec 3 ((b0 ++ [r7]).length) 1))))))))))))
  ·simp at h
 ·obtain ⟨v0, b0⟩ := s
  unfold dGlevels_L1_step at h
  try dsimp only at h
  rcases itS h with ⟨c6, h⟩ | ⟨c6, h⟩
  ·obtain ⟨r7, h8, h⟩ := bnS h
   obtain ⟨h9, h⟩ := gdS h
   simp at h
  ·obtain rfl := oR h
   exact ⟨Does.of_viewM 0 400 (cs 2 [oa, .br false]) [0] (by kernel_rfl) (by kernel_rfl) (ok1 (dF c6)), by intro q; cases q⟩
def dGlevels (l_0 : (List Int)) : Option (List (List Int)) :=
 (lp (dGlevels_L1_step) (l_0, ([l_0] : (List (List Int))))).bind fun o1 =>
 some o1
theorem dGlevels_ret (l_0 : (List Int)) (r : (List (List Int))) (h : dGlevels l_0 = some r) : Ret Tryz.prog G0 61 [.lst (fl e_u64 l_0) l_0.length] (.vec 0 r.length 1) [(bV (fl (e_lst e_u64) r) 26)] := by
 unfold dGlevels at h
 obtain ⟨o1, hl1, h⟩ := bnS h
 obtain rfl := oI h
 exact Ret.of_view 400 (cs 4 ((.tr (.wid (.t 3))) :: (.fcut 0 (.exit 0) (dGlevels_L1_T o1) (dGlevels_L1_B o1) [0] [(0, .any), (3, .vec 0 (([l_0] : (List (List Int))).length) 1)] [(bV (fl (e_lst e_u64) ([l_0] : (List (List Int)))) 26)]) :: (cs 2 []))) [1] (by kernel_rfl) (by kernel_rfl) (k2 ((Nat.le_refl _) : 1 ≤ 1) (k2 ((by first | rfl | simp only [List.length_replicate, List.length_set]) : (.vec 0 1 1 : AV) = .vec 0 (([l_0] : (List (List Int))).length) 1) (k2 (rfl : ((bV [.lst (fl e_u64 l_0) l_0.length] 26) : Blk) = renB [0] (bV (fl (e_lst e_u64) ([l_0] : (List (List Int)))) 26)) (ok1 (dGlevels_L1_does (s := (l_0, ([l_0] : (List (List Int))))) (r := o1) hl1)))))
def dGDiffer_L287_step (r3 : (List (List Int))) (r5 : (List (List Int))) (v12 : Int) (v13 : Int) (b2 : (List Int)) (v69 : Int) (b3 : (List Int)) (x277 : Int) : (Int × Int × (List Int)) → Option ((Int × Int × (List Int)) ⊕ (Int × (List Int)))
 | (v12, v17, b3) =>
  if InR .i64 (2 * x277) then
   if InR .i64 ((2 * x277) + 1) then
    if v17 ≤ ((2 * x277) + 1) then
     if InR .i64 (v12 + 1) then
      if (0 : Int) ≤ v13 then
       (r3[v13.toNat]?).bind fun x311 =>
       if (0 : Int) ≤ v17 then
        (x311[v17.toNat]?).bind fun x314 =>
        (r5[v13.toNat]?).bind fun x316 =>
        (x316[v17.toNat]?).bind fun x318 =>
        if x314 = x318 then
         if InR .i64 (v17 + 1) then
          some (Sum.inl ((v12 + 1), (v17 + 1), b3))
         else none
        else
         if b3.length + 1 ≤ 4294967296 then
          if InR .i64 (v17 + 1) then
           some (Sum.inl ((v12 + 1), (v17 + 1), (b3 ++ [v17])))
          else none
         else none
       else none
      else none
     else none
    else
     some (Sum.inr (v12, b3))
   else none
  else none
def dGDiffer_L287_H (r3 : (List (List Int))) (r5 : (List (List Int))) (v12 : Int) (v13 : Int) (b2 : (List Int)) (v69 : Int) (b3 : (List Int)) (x277 : Int) : (Int × Int × (List Int)) → St := fun (s : (Int × Int × (List Int))) => S 121 [(8, .vec 0 r3.length 1), (9, .vec 1 r5.length 1), (12, .int .i64 s.1), (13, .int .i64 v13), (14, .vec 3 s.2.2.length 1), (16, .int .i64 x277), (17, .int .i64 s.2.1), (67, .vec 2 b2.length 1), (68, .int .i64 (↑b2.length : Int)), (69, .int .i64 v69)] [(bV (fl (e_lst e_u64) r3) 26), (bV (fl (e_lst e_u64) r5) 26), (bV (fl e_i64 b2) 3), (bV (fl e_i64 s.2.2) 3)]
def dGDiffer_L287_X (r3 : (List (List Int))) (r5 : (List (List Int))) (v12 : Int) (v13 : Int) (b2 : (List Int)) (v69 : Int) (b3 : (List Int)) (x277 : Int) : (Int × (List Int)) → AEx := fun o => (.exit 6)
def dGDiffer_L287_T (r3 : (List (List Int))) (r5 : (List (List Int))) (v12 : Int) (v13 : Int) (b2 : (List Int)) (v69 : Int) (b3 : (List Int)) (x277 : Int) : (Int × (List Int)) → List (Nat × AV) := fun o => [(8, .vec 0 r3.length 1), (9, .vec 1 r5.length 1), (12, .int .i64 o.1), (13, .int .i64 v13), (14, .vec 3 o.2.length 1), (67, .vec 2 b2.length 1), (68, .int .i64 (↑b2.length : Int)), (69, .int .i64 v69)]
def dGDiffer_L287_B (r3 : (List (List Int))) (r5 : (List (List Int))) (v12 : Int) (v13 : Int) (b2 : (List Int)) (v69 : Int) (b3 : (List Int)) (x277 : Int) : (Int × (List Int)) → List Blk := fun o => [(bV (fl (e_lst e_u64) r3) 26), (bV (fl (e_lst e_u64) r5) 26), (bV (fl e_i64 b2) 3), (bV (fl e_i64 o.2) 3)]
def dGDiffer_L287_E (r3 : (List (List Int))) (r5 : (List (List Int))) (v12 : Int) (v13 : Int) (b2 : (List Int)) (v69 : Int) (b3 : (List Int)) (x277 : Int) (q : (Int × (List Int))) : St := S 121 (dGDiffer_L287_T r3 r5 v12 v13 b2 v69 b3 x277 q) (dGDiffer_L287_B r3 r5 v12 v13 b2 v69 b3 x277 q)
theorem dGDiffer_L287_does (r3 : (List (List Int))) (r5 : (List (List Int))) (v12 : Int) (v13 : Int) (b2 : (List Int)) (v69 : Int) (b3 : (List Int)) (x277 : Int) {s : (Int × Int × (List Int))} {r : (Int × (List Int))} (h : lp (dGDiffer_L287_step r3 r5 v12 v13 b2 v69 b3 x277) s = some r) : Does Tryz.prog G0 3 (.loop (bodyAt Tryz.prog 35 [1, 1, 1, 1, 1, 1, 1, 0, 1, 0, 0, 1, 0, 0, 1, 0, 1, 0, 0, 1, 1, 0, 0, 1, 1, 1, 0, 0])) (dGDiffer_L287_H r3 r5 v12 v13 b2 v69 b3 x277 s) (dGDiffer_L287_X r3 r5 v12 v13 b2 v69 b3 x277 r) (dGDiffer_L287_E r3 r5 v12 v13 b2 v69 b3 x277 r) := by
 refine Does.lp (H := dGDiffer_L287_H r3 r5 v12 v13 b2 v69 b3 x277) (X := dGDiffer_L287_X r3 r5 v12 v13 b2 v69 b3 x277) (E := dGDiffer_L287_E r3 r5 v12 v13 b2 v69 b3 x277) (fun s s2 h => ?_) (fun s r h => ?_) h
 ·obtain ⟨v12, v17, b3⟩ := s
  unfold dGDiffer_L287_step at h
  try dsimp only at h
  obtain ⟨h306, h⟩ := gdS h
  obtain ⟨h307, h⟩ := gdS h
  rcases itS h with ⟨c308, h⟩ | ⟨c308, h⟩
  ·obtain ⟨h309, h⟩ := gdS h
   obtain ⟨h310, h⟩ := gdS h
   obtain ⟨x311, h312, h⟩ := bnS h
   obtain ⟨h313, h⟩ := gdS h
   obtain ⟨x314, h315, h⟩ := bnS h
   obtain ⟨x316, h317, h⟩ := bnS h
   obtain ⟨x318, h319, h⟩ := bnS h
   let f18 : List CH := (cs 2 (ow :: ow :: oa :: bt :: oc :: ow :: (cs 3 ((.op none (.i v13.toNat)) :: (.op none (.v [.lst (fl e_u64 x311) x311.length])) :: oc :: (.op none (.i v17.toNat)) :: (.op none (.v [.int .u64 x314])) :: (cs 2 [.op none (.i v13.toNat), .op none (.v [.lst (fl e_u64 x316) x316.length]), oc, .op none (.i v17.toNat), .op none (.v [.int .u64 x318]), oa])))))
   have g19 := k2 h306 (k2 h307 (k2 (dT c308) (k2 h309 (k2 (ix h310 h312) (k2 (fl_sub1 (f := (e_lst e_u64)) (fun _ => rfl) h312 rfl) (k2 (ix h313 h315) (k2 (fl_ne (f := e_u64) (z := 0) (fun _ => rfl) h315) (k2 (s_u64 h315) (k2 (ix h310 h317) (k2 (fl_sub1 (f := (e_lst e_u64)) (fun _ => rfl) h317 rfl) (k2 (ix h313 h319) (k2 (fl_ne (f := e_u64) (z := 0) (fun _ => rfl) h319) (ok1 (s_u64 h319))))))))))))))
   rcases itS h with ⟨c320, h⟩ | ⟨c320, h⟩
   ·obtain ⟨h321, h⟩ := gdS h
    obtain rfl := oL h
    exact Does.of_viewM 3 400 (f18 ++ [.br false, oc, ow, oc]) [0, 1, 2, 3] (by kernel_rfl) (by kernel_rfl) (aO g19 (k2 (not_f (beq_t c320)) (ok1 h321)))
   ·obtain ⟨h322, h⟩ := gdS h
    obtain ⟨h323, h⟩ := gdS h
    obtain rfl := oL h
    exact Does.of_viewM 3 400 (f18 ++ (bt :: (cs 3 ((.op none (.ap 4)) :: (.tr (.eqc 5 (fl e_i64 (b3 ++ [v17])))) :: (.tr (.eqt (.t 116) (.vec 5 ((b3 ++ [v17]).length) 1))) :: (cs 2 [ow, oc]))))) [0, 1, 2, 5] (by kernel_rfl) (by kernel_rfl) (aO g19 (k2 (not_t (beq_f c320)) (k2 ((nB rfl) : 0 + 1 ≤ List.length ([jI v17] : List AV)) (k2 ((fl_length1 (f := e_i64) (fun _ => rfl) _) : List.length ((fl e_i64 b3) : List AV) = b3.length) (k2 (rfl : List.all ([jI v17] : List AV) AV.one = true) (k2 h322 (k2 ((fl_snoc rfl) : (fl e_i64 b3) ++ [jI v17] = (fl e_i64 (b3 ++ [v17]))) (k2 ((by simp <;> omega) : (.vec 5 (b3.length + 1) 1 : AV) = .vec 5 ((b3 ++ [v17]).length) 1) (ok1 h323)))))))))
  ·simp at h
 ·obtain ⟨v12, v17, b3⟩ := s
  unfold dGDiffer_L287_step at h
  try dsimp only at h
  obtain ⟨h306, h⟩ := gdS h
  obtain ⟨h307, h⟩ := gdS h
  rcases itS h with ⟨c308, h⟩ | ⟨c308, h⟩
  ·obtain ⟨h309, h⟩ := gdS h
   obtain ⟨h310, h⟩ := gdS h
   obtain ⟨x311, h312, h⟩ := bnS h
   obtain ⟨h313, h⟩ := gdS h
   obtain ⟨x314, h315, h⟩ := bnS h
   obtain ⟨x316, h317, h⟩ := bnS h
   obtain ⟨x318, h319, h⟩ := bnS h
   rcases itS h with ⟨c320, h⟩ | ⟨c320, h⟩
   ·obtain ⟨h321, h⟩ := gdS h
    simp at h
   ·obtain ⟨h322, h⟩ := gdS h
    obtain ⟨h323, h⟩ := gdS h
    simp at h
  ·obtain rfl := oR h
   exact ⟨Does.of_viewM 3 400 (cs 2 [ow, ow, oa, .br false]) [0, 1, 2, 3] (by kernel_rfl) (by kernel_rfl) (k2 h306 (k2 h307 (ok1 (dF c308)))), by intro q; cases q⟩
def dGDiffer_L174_step (r3 : (List (List Int))) (r5 : (List (List Int))) (v12 : Int) (v13 : Int) (b2 : (List Int)) : (Int × Int × (List Int) × (List Int)) → Option ((Int × Int × (List Int) × (List Int)) ⊕ (Int × (List Int) × (List Int)))
 | (v12, v69, b2, b3) =>
  if v69 < (↑b2.length : Int) then
   if (0 : Int) ≤ v69 then
    (b2[v69.toNat]?).bind fun x277 =>
    if InR .i64 (2 * x277) then
     if InR .i64 ((2 * x277) + 1) then
      if (0 : Int) ≤ v13 then
       (r3[v13.toNat]?).bind fun x282 =>
       if ((2 * x277) + 1) = (↑x282.length : Int) then
        if b3.length + 1 ≤ 4294967296 then
         if InR .i64 (v69 + 1) then
          some (Sum.inl (v12, (v69 + 1), b2, (b3 ++ [(2 * x277)])))
         else none
        else none
       else
        (lp (dGDiffer_L287_step r3 r5 v12 v13 b2 v69 b3 x277) (v12, (2 * x277), b3)).bind fun o287 =>
        if InR .i64 (v69 + 1) then
         some (Sum.inl (o287.1, (v69 + 1), b2, o287.2))
        else none
      else none
     else none
    else none
   else none
  else
   some (Sum.inr (v12, b2, b3))
def dGDiffer_L174_H (r3 : (List (List Int))) (r5 : (List (List Int))) (v12 : Int) (v13 : Int) (b2 : (List Int)) : (Int × Int × (List Int) × (List Int)) → St := fun (s : (Int × Int × (List Int) × (List Int))) => S 121 [(8, .vec 0 r3.length 1), (9, .vec 1 r5.length 1), (12, .int .i64 s.1), (13, .int .i64 v13), (14, .vec 3 s.2.2.2.length 1), (67, .vec 2 s.2.2.1.length 1), (68, .int .i64 (↑s.2.2.1.length : Int)), (69, .int .i64 s.2.1)] [(bV (fl (e_lst e_u64) r3) 26), (bV (fl (e_lst e_u64) r5) 26), (bV (fl e_i64 s.2.2.1) 3), (bV (fl e_i64 s.2.2.2) 3)]
def dGDiffer_L174_X (r3 : (List (List Int))) (r5 : (List (List Int))) (v12 : Int) (v13 : Int) (b2 : (List Int)) : (Int × (List Int) × (List Int)) → AEx := fun o => (.exit 4)
def dGDiffer_L174_T (r3 : (List (List Int))) (r5 : (List (List Int))) (v12 : Int) (v13 : Int) (b2 : (List Int)) : (Int × (List Int) × (List Int)) → List (Nat × AV) := fun o => [(8, .vec 0 r3.length 1), (9, .vec 1 r5.length 1), (12, .int .i64 o.1), (13, .int .i64 v13), (14, .vec 3 o.2.2.length 1)]
def dGDiffer_L174_B (r3 : (List (List Int))) (r5 : (List (List Int))) (v12 : Int) (v13 : Int) (b2 : (List Int)) : (Int × (List Int) × (List Int)) → List Blk := fun o => [(bV (fl (e_lst e_u64) r3) 26), (bV (fl (e_lst e_u64) r5) 26), (bV (fl e_i64 o.2.1) 3), (bV (fl e_i64 o.2.2) 3)]
def dGDiffer_L174_E (r3 : (List (List Int))) (r5 : (List (List Int))) (v12 : Int) (v13 : Int) (b2 : (List Int)) (q : (Int × (List Int) × (List Int))) : St := S 121 (dGDiffer_L174_T r3 r5 v12 v13 b2 q) (dGDiffer_L174_B r3 r5 v12 v13 b2 q)
theorem dGDiffer_L174_does (r3 : (List (List Int))) (r5 : (List (List Int))) (v12 : Int) (v13 : Int) (b2 : (List Int)) {s : (Int × Int × (List Int) × (List Int))} {r : (Int × (List Int) × (List Int))} (h : lp (dGDiffer_L174_step r3 r5 v12 v13 b2) s = some r) : Does Tryz.prog G0 3 (.loop (bodyAt Tryz.prog 35 [1, 1, 1, 1, 1, 1, 1, 0, 1, 0, 0, 1, 0, 0, 1, 0, 1, 0, 0])) (dGDiffer_L174_H r3 r5 v12 v13 b2 s) (dGDiffer_L174_X r3 r5 v12 v13 b2 r) (dGDiffer_L174_E r3 r5 v12 v13 b2 r) := by
 refine Does.lp (H := dGDiffer_L174_H r3 r5 v12 v13 b2) (X := dGDiffer_L174_X r3 r5 v12 v13 b2) (E := dGDiffer_L174_E r3 r5 v12 v13 b2) (fun s s2 h => ?_) (fun s r h => ?_) h
 ·obtain ⟨v12, v69, b2, b3⟩ := s
  unfold dGDiffer_L174_step at h
  try dsimp only at h
  rcases itS h with ⟨c275, h⟩ | ⟨c275, h⟩
  ·obtain ⟨h276, h⟩ := gdS h
   obtain ⟨x277, h278, h⟩ := bnS h
   obtain ⟨h279, h⟩ := gdS h
   obtain ⟨h280, h⟩ := gdS h
   obtain ⟨h281, h⟩ := gdS h
   obtain ⟨x282, h283, h⟩ := bnS h
   let f20 : List CH := (oa :: bt :: (.op none (.i v69.toNat)) :: (vI x277) :: (cs 2 (ow :: ow :: (cs 2 [.op none (.i v13.toNat), .op none (.v [.lst (fl e_u64 x282) x282.length]), oc, oa]))))
   have g21 := k2 (dT c275) (k2 (ix h276 h278) (k2 (s_i64 h278) (k2 h279 (k2 h280 (k2 (ix h281 h283) (ok1 (fl_sub1 (f := (e_lst e_u64)) (fun _ => rfl) h283 rfl)))))))
   rcases itS h with ⟨c284, h⟩ | ⟨c284, h⟩
   ·obtain ⟨h285, h⟩ := gdS h
    obtain ⟨h286, h⟩ := gdS h
    obtain rfl := oL h
    exact Does.of_viewM 3 400 (f20 ++ (bt :: (cs 2 [ow, oc, .op none (.ap 4), .tr (.eqc 5 (fl e_i64 (b3 ++ [(2 * x277)]))), .tr (.eqt (.t 86) (.vec 5 ((b3 ++ [(2 * x277)]).length) 1)), oc, ow, oc]))) [0, 1, 2, 5] (by kernel_rfl) (by kernel_rfl) (aO g21 (k2 (beq_t c284) (k2 h279 (k2 ((nB rfl) : 0 + 1 ≤ List.length ([jI (2 * x277)] : List AV)) (k2 ((fl_length1 (f := e_i64) (fun _ => rfl) _) : List.length ((fl e_i64 b3) : List AV) = b3.length) (k2 (rfl : List.all ([jI (2 * x277)] : List AV) AV.one = true) (k2 h285 (k2 ((fl_snoc rfl) : (fl e_i64 b3) ++ [jI (2 * x277)] = (fl e_i64 (b3 ++ [(2 * x277)]))) (k2 ((by simp <;> omega) : (.vec 5 (b3.length + 1) 1 : AV) = .vec 5 ((b3 ++ [(2 * x277)]).length) 1) (ok1 h286))))))))))
   ·obtain ⟨o287, hl287, h⟩ := bnS h
    obtain ⟨h324, h⟩ := gdS h
    obtain rfl := oL h
    exact Does.of_viewM 3 400 (f20 ++ [.br false, oc, ow, oc, .fcut 3 (.exit 6) (dGDiffer_L287_T r3 r5 v12 v13 b2 v69 b3 x277 o287) (dGDiffer_L287_B r3 r5 v12 v13 b2 v69 b3 x277 o287) [0, 1, 2, 3] [(8, .any), (9, .any), (12, .any), (13, .any), (14, .any), (16, .any), (17, .any), (67, .any), (68, .any), (69, .any)] [bS, bS, bS, bS], ow, oc]) [0, 1, 2, 7] (by kernel_rfl) (by kernel_rfl) (aO g21 (k2 (beq_f c284) (k2 h279 (k2 (dGDiffer_L287_does r3 r5 v12 v13 b2 v69 b3 x277 (s := (v12, (2 * x277), b3)) (r := o287) hl287) (ok1 h324)))))
  ·simp at h
 ·obtain ⟨v12, v69, b2, b3⟩ := s
  unfold dGDiffer_L174_step at h
  try dsimp only at h
  rcases itS h with ⟨c275, h⟩ | ⟨c275, h⟩
  ·obtain ⟨h276, h⟩ := gdS h
   obtain ⟨x277, h278, h⟩ := bnS h
   obtain ⟨h279, h⟩ := gdS h
   obtain ⟨h280, h⟩ := gdS h
   obtain ⟨h281, h⟩ := gdS h
   obtain ⟨x282, h283, h⟩ := bnS h
   rcases itS h with ⟨c284, h⟩ | ⟨c284, h⟩
   ·obtain ⟨h285, h⟩ := gdS h
    obtain ⟨h286, h⟩ := gdS h
    simp at h
   ·obtain ⟨o287, hl287, h⟩ := bnS h
    obtain ⟨h324, h⟩ := gdS h
    simp at h
  ·obtain rfl := oR h
   exact ⟨Does.of_viewM 3 400 [oa, .br false] [0, 1, 2, 3] (by kernel_rfl) (by kernel_rfl) (ok1 (dF c275)), by intro q; cases q⟩
def dGDiffer_L19_step (r3 : (List (List Int))) (r5 : (List (List Int))) : (Int × Int × (List Int)) → Option ((Int × Int × (List Int)) ⊕ (Int × (List Int)))
 | (v12, v13, b2) =>
  if v13 ≥ (0 : Int) then
   (lp (dGDiffer_L174_step r3 r5 v12 v13 b2) (v12, (0 : Int), b2, ([] : (List Int)))).bind fun o174 =>
   if InR .i64 (v13 - 1) then
    some (Sum.inl (o174.1, (v13 - 1), o174.2.2))
   else none
  else
   some (Sum.inr (v12, b2))
def dGDiffer_L19_H (r3 : (List (List Int))) (r5 : (List (List Int))) : (Int × Int × (List Int)) → St := fun (s : (Int × Int × (List Int))) => S 121 [(8, .vec 0 r3.length 1), (9, .vec 1 r5.length 1), (11, .vec 2 s.2.2.length 1), (12, .int .i64 s.1), (13, .int .i64 s.2.1)] [(bV (fl (e_lst e_u64) r3) 26), (bV (fl (e_lst e_u64) r5) 26), (bV (fl e_i64 s.2.2) 3)]
def dGDiffer_L19_X (r3 : (List (List Int))) (r5 : (List (List Int))) : (Int × (List Int)) → AEx := fun o => (.exit 2)
def dGDiffer_L19_T (r3 : (List (List Int))) (r5 : (List (List Int))) : (Int × (List Int)) → List (Nat × AV) := fun o => [(11, .vec 2 o.2.length 1), (12, .int .i64 o.1)]
def dGDiffer_L19_B (r3 : (List (List Int))) (r5 : (List (List Int))) : (Int × (List Int)) → List Blk := fun o => [(bV (fl (e_lst e_u64) r3) 26), (bV (fl (e_lst e_u64) r5) 26), (bV (fl e_i64 o.2) 3)]
def dGDiffer_L19_E (r3 : (List (List Int))) (r5 : (List (List Int))) (q : (Int × (List Int))) : St := S 121 (dGDiffer_L19_T r3 r5 q) (dGDiffer_L19_B r3 r5 q)
theorem dGDiffer_L19_does (r3 : (List (List Int))) (r5 : (List (List Int))) {s : (Int × Int × (List Int))} {r : (Int × (List Int))} (h : lp (dGDiffer_L19_step r3 r5) s = some r) : Does Tryz.prog G0 2 (.loop (bodyAt Tryz.prog 35 [1, 1, 1, 1, 1, 1, 1, 0, 1, 0, 0])) (dGDiffer_L19_H r3 r5 s) (dGDiffer_L19_X r3 r5 r) (dGDiffer_L19_E r3 r5 r) := by
 refine Does.lp (H := dGDiffer_L19_H r3 r5) (X := dGDiffer_L19_X r3 r5) (E := dGDiffer_L19_E r3 r5) (fun s s2 h => ?_) (fun s r h => ?_) h
 ·obtain ⟨v12, v13, b2⟩ := s
  unfold dGDiffer_L19_step at h
  try dsimp only at h
  rcases itS h with ⟨c173, h⟩ | ⟨c173, h⟩
  ·obtain ⟨o174, hl174, h⟩ := bnS h
   obtain ⟨h325, h⟩ := gdS h
   obtain rfl := oL h
   exact Does.of_viewM 2 400 (oc :: oa :: bt :: (cs 4 ((.tr (.vec (.t 14) 1 3)) :: (.fcut 3 (.exit 4) (dGDiffer_L174_T r3 r5 v12 v13 b2 o174) (dGDiffer_L174_B r3 r5 v12 v13 b2 o174) [0, 1, 2, 3] [(8, .any), (9, .any), (12, .any), (13, .any), (14, .vec 3 (([] : (List Int)).length) 1), (67, .any), (68, .any), (69, jI (0 : Int))] [bS, bS, bS, (bV (fl e_i64 ([] : (List Int))) 3)]) :: (cs 3 [ow, oc])))) [0, 1, 7] (by kernel_rfl) (by kernel_rfl) (k2 (dT c173) (k2 ((by first | rfl | simp only [List.length_replicate, List.length_set]) : (.vec 3 0 1 : AV) = .vec 3 (([] : (List Int)).length) 1) (k2 (rfl : (jI 0 : AV) = jI (0 : Int)) (k2 (rfl : ((bV [] 3) : Blk) = renB [0, 1, 2, 3] (bV (fl e_i64 ([] : (List Int))) 3)) (k2 (dGDiffer_L174_does r3 r5 v12 v13 b2 (s := (v12, (0 : Int), b2, ([] : (List Int)))) (r := o174) hl174) (ok1 h325))))))
  ·simp at h
 ·obtain ⟨v12, v13, b2⟩ := s
  unfold dGDiffer_L19_step at h
  try dsimp only at h
  rcases itS h with ⟨c173, h⟩ | ⟨c173, h⟩
  ·obtain ⟨o174, hl174, h⟩ := bnS h
   obtain ⟨h325, h⟩ := gdS h
   simp at h
  ·obtain rfl := oR h
   exact ⟨Does.of_viewM 2 400 [oc, oa, .br false] [0, 1, 2] (by kernel_rfl) (by kernel_rfl) (ok1 (dF c173)), by intro q; cases q⟩
def dGDiffer_L326_step (a_0 : (List Int)) (b_1 : (List Int)) : (Int × (List Int)) → Option ((Int × (List Int)) ⊕ (List Int))
 | (v28, b0) =>
  if v28 < (if (↑a_0.length : Int) < (↑b_1.length : Int) then (↑b_1.length : Int) else (↑a_0.length : Int)) then
   if b0.length + 1 ≤ 4294967296 then
    if InR .i64 (v28 + 1) then
     some (Sum.inl ((v28 + 1), (b0 ++ [v28])))
    else none
   else none
  else
   some (Sum.inr b0)
def dGDiffer_L326_H (a_0 : (List Int)) (b_1 : (List Int)) : (Int × (List Int)) → St := fun (s : (Int × (List Int))) => S 121 [(6, .vec 0 s.2.length 1), (27, .int .i64 (if (↑a_0.length : Int) < (↑b_1.length : Int) then (↑b_1.length : Int) else (↑a_0.length : Int))), (28, .int .i64 s.1)] [(bV (fl e_i64 s.2) 3)]
def dGDiffer_L326_X (a_0 : (List Int)) (b_1 : (List Int)) : (List Int) → AEx := fun o => (.exit 0)
def dGDiffer_L326_T (a_0 : (List Int)) (b_1 : (List Int)) : (List Int) → List (Nat × AV) := fun o => [(6, .vec 0 o.length 1)]
def dGDiffer_L326_B (a_0 : (List Int)) (b_1 : (List Int)) : (List Int) → List Blk := fun o => [(bV (fl e_i64 o) 3)]
def dGDiffer_L326_E (a_0 : (List Int)) (b_1 : (List Int)) (q : (List Int)) : St := S 121 (dGDiffer_L326_T a_0 b_1 q) (dGDiffer_L326_B a_0 b_1 q)
theorem dGDiffer_L326_does (a_0 : (List Int)) (b_1 : (List Int)) {s : (Int × (List Int))} {r : (List Int)} (h : lp (dGDiffer_L326_step a_0 b_1) s = some r) : Does Tryz.prog G0 0 (.loop (bodyAt Tryz.prog 35 [1, 0, 1, 0, 1, 0, 1, 0, 0])) (dGDiffer_L326_H a_0 b_1 s) (dGDiffer_L326_X a_0 b_1 r) (dGDiffer_L326_E a_0 b_1 r) := by
 refine Does.lp (H := dGDiffer_L326_H a_0 b_1) (X := dGDiffer_L326_X a_0 b_1) (E := dGDiffer_L326_E a_0 b_1) (fun s s2 h => ?_) (fun s r h => ?_) h
 ·obtain ⟨v28, b0⟩ := s
  unfold dGDiffer_L326_step at h
  try dsimp only at h
  rcases itS h with ⟨c330, h⟩ | ⟨c330, h⟩
  ·obtain ⟨h331, h⟩ := gdS h
   obtain ⟨h332, h⟩ := gdS h
   obtain rfl := oL h
   exact Does.of_viewM 0 400 (oa :: bt :: (cs 5 [.op none (.ap 4), .tr (.eqc 2 (fl e_i64 (b0 ++ [v28]))), .tr (.eqt (.t 34) (.vec 2 ((b0 ++ [v28]).length) 1)), oc, ow, oc])) [2] (by kernel_rfl) (by kernel_rfl) (k2 (dT c330) (k2 ((nB rfl) : 0 + 1 ≤ List.length ([jI v28] : List AV)) (k2 ((fl_length1 (f := e_i64) (fun _ => rfl) _) : List.length ((fl e_i64 b0) : List AV) = b0.length) (k2 (rfl : List.all ([jI v28] : List AV) AV.one = true) (k2 h331 (k2 ((fl_snoc rfl) : (fl e_i64 b0) ++ [jI v28] = (fl e_i64 (b0 ++ [v28]))) (k2 ((by simp <;> omega) : (.vec 2 (b0.length + 1) 1 : AV) = .vec 2 ((b0 ++ [v28]).length) 1) (ok1 h332))))))))
  ·simp at h
 ·obtain ⟨v28, b0⟩ := s
  unfold dGDiffer_L326_step at h
  try dsimp only at h
  rcases itS h with ⟨c330, h⟩ | ⟨c330, h⟩
  ·obtain ⟨h331, h⟩ := gdS h
   obtain ⟨h332, h⟩ := gdS h
   simp at h
  ·obtain rfl := oR h
   exact ⟨Does.of_viewM 0 400 [oa, .br false] [0] (by kernel_rfl) (by kernel_rfl) (ok1 (dF c330)), by intro q; cases q⟩
def dGDiffer (a_0 : (List Int)) (b_1 : (List Int)) : Option ((List Int) × Int) :=
 if (↑a_0.length : Int) = (↑b_1.length : Int) then
  if (↑a_0.length : Int) = (0 : Int) then
   some (([] : List Int), 0)
  else
   (dGlevels a_0).bind fun r3 =>
   (dGlevels b_1).bind fun r5 =>
   if InR .i64 ((↑r3.length : Int) - 1) then
    if (0 : Int) ≤ ((↑r3.length : Int) - 1) then
     (r3[(Int.toNat ((↑r3.length : Int) - 1))]?).bind fun x9 =>
     (x9[0]?).bind fun x11 =>
     (r5[(Int.toNat ((↑r3.length : Int) - 1))]?).bind fun x13 =>
     (x13[0]?).bind fun x15 =>
     if x11 = x15 then
      some (([] : List Int), 1)
     else
      if InR .i64 (((↑r3.length : Int) - 1) - 1) then
       (lp (dGDiffer_L19_step r3 r5) ((1 : Int), (((↑r3.length : Int) - 1) - 1), ([0] : (List Int)))).bind fun o19 =>
       some (o19.2, o19.1)
      else none
    else none
   else none
 else
  (lp (dGDiffer_L326_step a_0 b_1) ((0 : Int), ([] : (List Int)))).bind fun o326 =>
  some (o326, 0)
theorem dGDiffer_ret (a_0 : (List Int)) (b_1 : (List Int)) (r : ((List Int) × Int)) (h : dGDiffer a_0 b_1 = some r) : Ret Tryz.prog G0 35 [.lst (fl e_u64 a_0) a_0.length, .lst (fl e_u64 b_1) b_1.length] (.tup [.vec 0 r.1.length 1, .int .i64 r.2]) [(bV (fl e_i64 r.1) 3)] := by
 unfold dGDiffer at h
 let f22 : List CH := (cs 6 [oa])
 rcases itS h with ⟨c1, h⟩ | ⟨c1, h⟩
 ·let f23 : List CH := (bf :: (cs 2 [oa]))
  rcases itS h with ⟨c2, h⟩ | ⟨c2, h⟩
  ·obtain rfl := oI h
   exact Ret.of_view 400 (f22 ++ (f23 ++ (bt :: (cs 2 [.tr (.vec (.t 4) 1 3), .tr (.eqc 0 (fl e_i64 ([] : List Int))), .tr (.eqt (.t 4) (.vec 0 (([] : List Int).length) 1))])))) [0] (by kernel_rfl) (by kernel_rfl) (k2 (not_f (beq_t c1)) (k2 (beq_t c2) (k2 (rfl : [] = (fl e_i64 ([] : List Int))) (ok1 (rfl : (.vec 0 0 1 : AV) = .vec 0 (([] : List Int).length) 1)))))
  ·obtain ⟨r3, h4, h⟩ := bnS h
   obtain ⟨r5, h6, h⟩ := bnS h
   obtain ⟨h7, h⟩ := gdS h
   obtain ⟨h8, h⟩ := gdS h
   obtain ⟨x9, h10, h⟩ := bnS h
   obtain ⟨x11, h12, h⟩ := bnS h
   obtain ⟨x13, h14, h⟩ := bnS h
   obtain ⟨x15, h16, h⟩ := bnS h
   let f24 : List CH := (bf :: oc :: (.ret none [.any] (.vec 0 r3.length 1) [(bV (fl (e_lst e_u64) r3) 26)]) :: oc :: (.ret none [.any] (.vec 0 r5.length 1) [(bV (fl (e_lst e_u64) r5) 26)]) :: (cs 4 (ow :: (cs 3 ((.op none (.i (Int.toNat ((↑r3.length : Int) - 1)))) :: (.op none (.v [.lst (fl e_u64 x9) x9.length])) :: (.op none (.i 0)) :: (.op none (.v [.int .u64 x11])) :: (cs 2 [.op none (.i (Int.toNat ((↑r3.length : Int) - 1))), .op none (.v [.lst (fl e_u64 x13) x13.length]), .op none (.i 0), .op none (.v [.int .u64 x15]), oa]))))))
   have g25 := k2 (not_f (beq_t c1)) (k2 (beq_f c2) (k2 (dGlevels_ret a_0 r3 h4) (k2 (dGlevels_ret b_1 r5 h6) (k2 h7 (k2 (ix h8 h10) (k2 (fl_sub1 (f := (e_lst e_u64)) (fun _ => rfl) h10 rfl) (k2 (ir h12) (k2 (fl_ne (f := e_u64) (z := 0) (fun _ => rfl) h12) (k2 (s_u64 h12) (k2 (ix h8 h14) (k2 (fl_sub1 (f := (e_lst e_u64)) (fun _ => rfl) h14 rfl) (k2 (ir h16) (k2 (fl_ne (f := e_u64) (z := 0) (fun _ => rfl) h16) (ok1 (s_u64 h16)))))))))))))))
   rcases itS h with ⟨c17, h⟩ | ⟨c17, h⟩
   ·obtain rfl := oI h
    exact Ret.of_view 400 (f22 ++ (f23 ++ (f24 ++ (bt :: (cs 2 [.tr (.vec (.t 4) 1 3), .tr (.eqc 2 (fl e_i64 ([] : List Int))), .tr (.eqt (.t 4) (.vec 2 (([] : List Int).length) 1))]))))) [2] (by kernel_rfl) (by kernel_rfl) (aO g25 (k2 (beq_t c17) (k2 (rfl : [] = (fl e_i64 ([] : List Int))) (ok1 (rfl : (.vec 2 0 1 : AV) = .vec 2 (([] : List Int).length) 1)))))
   ·obtain ⟨h18, h⟩ := gdS h
    obtain ⟨o19, hl19, h⟩ := bnS h
    obtain rfl := oI h
    exact Ret.of_view 400 (f22 ++ (f23 ++ (f24 ++ (bf :: (cs 4 (ow :: oc :: (.tr (.wid (.t 11))) :: (.fcut 2 (.exit 2) (dGDiffer_L19_T r3 r5 o19) (dGDiffer_L19_B r3 r5 o19) [0, 1, 2] [(8, .any), (9, .any), (11, .vec 2 (([0] : (List Int)).length) 1), (12, jI (1 : Int)), (13, .any)] [bS, bS, (bV (fl e_i64 ([0] : (List Int))) 3)]) :: (cs 4 []))))))) [5] (by kernel_rfl) (by kernel_rfl) (aO g25 (k2 (beq_f c17) (k2 h18 (k2 ((Nat.le_refl _) : 1 ≤ 1) (k2 ((by first | rfl | simp only [List.length_replicate, List.length_set]) : (.vec 2 1 1 : AV) = .vec 2 (([0] : (List Int)).length) 1) (k2 (rfl : (jI 1 : AV) = jI (1 : Int)) (k2 (rfl : ((bV [jI 0] 3) : Blk) = renB [0, 1, 2] (bV (fl e_i64 ([0] : (List Int))) 3)) (ok1 (dGDiffer_L19_does r3 r5 (s := ((1 : Int), (((↑r3.length : Int) - 1) - 1), ([0] : (List Int)))) (r := o19) hl19)))))))))
 ·obtain ⟨o326, hl326, h⟩ := bnS h
  obtain rfl := oI h
  exact Ret.of_view 400 (f22 ++ (bt :: (cs 5 (oa :: oc :: (.tr (.vec (.t 6) 1 3)) :: (.fcut 0 (.exit 0) [(6, .vec 0 o326.length 1)] [(bV (fl e_i64 o326) 3)] [0] [(6, .vec 0 (([] : (List Int)).length) 1), (27, .any), (28, jI (0 : Int))] [(bV (fl e_i64 ([] : (List Int))) 3)]) :: (cs 3 []))))) [1] (by kernel_rfl) (by kernel_rfl) (k2 (not_t (beq_f c1)) (k2 ((by first | rfl | simp only [List.length_replicate, List.length_set]) : (.vec 0 0 1 : AV) = .vec 0 (([] : (List Int)).length) 1) (k2 (rfl : (jI 0 : AV) = jI (0 : Int)) (k2 (rfl : ((bV [] 3) : Blk) = renB [0] (bV (fl e_i64 ([] : (List Int))) 3)) (ok1 (dGDiffer_L326_does a_0 b_1 (s := ((0 : Int), ([] : (List Int)))) (r := o326) hl326))))))
end
end Go.Proofs.YtpadimnchmghpaaGreatDoor.Av
