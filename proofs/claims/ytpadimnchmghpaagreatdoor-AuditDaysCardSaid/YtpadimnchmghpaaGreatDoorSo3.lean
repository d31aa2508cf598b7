import Derived.Test.YtpadimnchmghpaaGreatDoorW0
open Prod (fst)
open Int (tdiv tmod)
set_option maxHeartbeats 4000000
set_option maxRecDepth 100000
set_option linter.unusedVariables false
set_option linter.unusedSimpArgs false
namespace Go.Proofs.YtpadimnchmghpaaGreatDoor.Av
abbrev tB : List UInt8 := [0, 1, 2, 2, 3, 3, 3, 3, 4, 4, 4, 4, 4, 4, 4, 4, 5, 5, 5, 5, 5, 5, 5, 5, 5, 5, 5, 5, 5, 5, 5, 5, 6, 6, 6, 6, 6, 6, 6, 6, 6, 6, 6, 6, 6, 6, 6, 6, 6, 6, 6, 6, 6, 6, 6, 6, 6, 6, 6, 6, 6, 6, 6, 6, 7, 7, 7, 7, 7, 7, 7, 7, 7, 7, 7, 7, 7, 7, 7, 7, 7, 7, 7, 7, 7, 7, 7, 7, 7, 7, 7, 7, 7, 7, 7, 7, 7, 7, 7, 7, 7, 7, 7, 7, 7, 7, 7, 7, 7, 7, 7, 7, 7, 7, 7, 7, 7, 7, 7, 7, 7, 7, 7, 7, 7, 7, 7, 7, 8, 8, 8, 8, 8, 8, 8, 8, 8, 8, 8, 8, 8, 8, 8, 8, 8, 8, 8, 8, 8, 8, 8, 8, 8, 8, 8, 8, 8, 8, 8, 8, 8, 8, 8, 8, 8, 8, 8, 8, 8, 8, 8, 8, 8, 8, 8, 8, 8, 8, 8, 8, 8, 8, 8, 8, 8, 8, 8, 8, 8, 8, 8, 8, 8, 8, 8, 8, 8, 8, 8, 8, 8, 8, 8, 8, 8, 8, 8, 8, 8, 8, 8, 8, 8, 8, 8, 8, 8, 8, 8, 8, 8, 8, 8, 8, 8, 8, 8, 8, 8, 8, 8, 8, 8, 8, 8, 8, 8, 8, 8, 8, 8, 8, 8, 8, 8, 8, 8, 8, 8, 8, 8, 8, 8, 8, 8, 8]
noncomputable section
open Go Go.Proofs
structure TB where
 ucharges : (List TC)
def TB.enc (x : TB) : List AV := [.lst (fl TC.enc x.ucharges) x.ucharges.length]
def cCmp (c_0 : TB) (i_1 : Int) (k_2 : Int) : Option Int :=
 if (0 : Int) ≤ i_1 then
  (c_0.ucharges[i_1.toNat]?).bind fun x2 =>
  (clock_Day x2.Time).bind fun r4 =>
  if (0 : Int) ≤ k_2 then
   (c_0.ucharges[k_2.toNat]?).bind fun x7 =>
   (clock_Day x7.Time).bind fun r9 =>
   if InR .i64 (r4 - r9) then
    some (r4 - r9)
   else none
  else none
 else none
theorem cCmp_ret (c_0 : TB) (i_1 : Int) (k_2 : Int) (r : Int) (h : cCmp c_0 i_1 k_2 = some r) : Ret Tryz.prog G0 74 [.agg [.lst (fl TC.enc c_0.ucharges) c_0.ucharges.length], .int .i64 i_1, .int .i64 k_2] (.int .i64 r) [] := by
 unfold cCmp at h
 obtain ⟨h1, h⟩ := gdS h
 obtain ⟨x2, h3, h⟩ := bnS h
 obtain ⟨r4, h5, h⟩ := bnS h
 obtain ⟨h6, h⟩ := gdS h
 obtain ⟨x7, h8, h⟩ := bnS h
 obtain ⟨r9, h10, h⟩ := bnS h
 obtain ⟨h11, h⟩ := gdS h
 obtain rfl := oI h
 exact Ret.of_view 400 (cs 5 ((.op none (.i i_1.toNat)) :: oc :: (.op none (.v [jI x2.Time])) :: (.ret none [.any] (jI r4) []) :: (cs 3 [.op none (.i k_2.toNat), oc, .op none (.v [jI x7.Time]), .ret none [.any] (jI r9) [], ow, oc]))) [] (by kernel_rfl) (by kernel_rfl) (k2 (ix h1 h3) (k2 (fl_ne (f := TC.enc) (z := 6) (fun _ => rfl) h3) (k2 (fl_sub (f := TC.enc) (z := 7) (j := i_1.toNat) (a := 4) (n := 1) (fun _ => rfl) h3 (by decide) rfl) (k2 (clock_Day_ret x2.Time r4 h5) (k2 (ix h6 h8) (k2 (fl_ne (f := TC.enc) (z := 6) (fun _ => rfl) h8) (k2 (fl_sub (f := TC.enc) (z := 7) (j := k_2.toNat) (a := 4) (n := 1) (fun _ => rfl) h8 (by decide) rfl) (k2 (clock_Day_ret x7.Time r9 h10) (ok1 h11)))))))))
def math_bits_Len64 (x_0 : Int) : Option Int :=
 if x_0 ≥ (4294967296 : Int) then
  if (Int.fdiv x_0 (2 ^ (min (Int.toNat 32) (IntKind.bits .u64)))) ≥ (65536 : Int) then
   (some (Int.fdiv (Int.fdiv x_0 (2 ^ (min (Int.toNat 32) (IntKind.bits .u64)))) (2 ^ (min (Int.toNat 16) (IntKind.bits .u64))))).bind fun y3 =>
   if y3 ≥ (256 : Int) then
    if InR .u8 (Int.fdiv y3 (2 ^ (min (Int.toNat 8) (IntKind.bits .u64)))) then
     if (0 : Int) ≤ (Int.fdiv y3 (2 ^ (min (Int.toNat 8) (IntKind.bits .u64)))) then
      ((tB : List UInt8)[(Int.toNat (Int.fdiv y3 (2 ^ (min (Int.toNat 8) (IntKind.bits .u64)))))]?).bind fun x8 =>
      if InR .i64 ((x8.toNat : Int)) then
       if InR .i64 (56 + (x8.toNat : Int)) then
        some (56 + (x8.toNat : Int))
       else none
      else none
     else none
    else none
   else
    if InR .u8 (y3) then
     if (0 : Int) ≤ y3 then
      ((tB : List UInt8)[y3.toNat]?).bind fun x14 =>
      if InR .i64 ((x14.toNat : Int)) then
       if InR .i64 (48 + (x14.toNat : Int)) then
        some (48 + (x14.toNat : Int))
       else none
      else none
     else none
    else none
  else
   if (Int.fdiv x_0 (2 ^ (min (Int.toNat 32) (IntKind.bits .u64)))) ≥ (256 : Int) then
    (some (Int.fdiv (Int.fdiv x_0 (2 ^ (min (Int.toNat 32) (IntKind.bits .u64)))) (2 ^ (min (Int.toNat 8) (IntKind.bits .u64))))).bind fun y19 =>
    if InR .u8 (y19) then
     if (0 : Int) ≤ y19 then
      ((tB : List UInt8)[y19.toNat]?).bind fun x23 =>
      if InR .i64 ((x23.toNat : Int)) then
       if InR .i64 (40 + (x23.toNat : Int)) then
        some (40 + (x23.toNat : Int))
       else none
      else none
     else none
    else none
   else
    if InR .u8 (Int.fdiv x_0 (2 ^ (min (Int.toNat 32) (IntKind.bits .u64)))) then
     if (0 : Int) ≤ (Int.fdiv x_0 (2 ^ (min (Int.toNat 32) (IntKind.bits .u64)))) then
      ((tB : List UInt8)[(Int.toNat (Int.fdiv x_0 (2 ^ (min (Int.toNat 32) (IntKind.bits .u64)))))]?).bind fun x29 =>
      if InR .i64 ((x29.toNat : Int)) then
       if InR .i64 (32 + (x29.toNat : Int)) then
        some (32 + (x29.toNat : Int))
       else none
      else none
     else none
    else none
 else
  if x_0 ≥ (65536 : Int) then
   if (Int.fdiv x_0 (2 ^ (min (Int.toNat 16) (IntKind.bits .u64)))) ≥ (256 : Int) then
    (some (Int.fdiv (Int.fdiv x_0 (2 ^ (min (Int.toNat 16) (IntKind.bits .u64)))) (2 ^ (min (Int.toNat 8) (IntKind.bits .u64))))).bind fun y35 =>
    if InR .u8 (y35) then
     if (0 : Int) ≤ y35 then
      ((tB : List UInt8)[y35.toNat]?).bind fun x39 =>
      if InR .i64 ((x39.toNat : Int)) then
       if InR .i64 (24 + (x39.toNat : Int)) then
        some (24 + (x39.toNat : Int))
       else none
      else none
     else none
    else none
   else
    if InR .u8 (Int.fdiv x_0 (2 ^ (min (Int.toNat 16) (IntKind.bits .u64)))) then
     if (0 : Int) ≤ (Int.fdiv x_0 (2 ^ (min (Int.toNat 16) (IntKind.bits .u64)))) then
      ((tB : List UInt8)[(Int.toNat (Int.fdiv x_0 (2 ^ (min (Int.toNat 16) (IntKind.bits .u64)))))]?).bind fun x45 =>
      if InR .i64 ((x45.toNat : Int)) then
       if InR .i64 (16 + (x45.toNat : Int)) then
        some (16 + (x45.toNat : Int))
       else none
      else none
     else none
    else none
  else
   if x_0 ≥ (256 : Int) then
    if InR .u8 (Int.fdiv x_0 (2 ^ (min (Int.toNat 8) (IntKind.bits .u64)))) then
     if (0 : Int) ≤ (Int.fdiv x_0 (2 ^ (min (Int.toNat 8) (IntKind.bits .u64)))) then
      ((tB : List UInt8)[(Int.toNat (Int.fdiv x_0 (2 ^ (min (Int.toNat 8) (IntKind.bits .u64)))))]?).bind fun x52 =>
      if InR .i64 ((x52.toNat : Int)) then
       if InR .i64 (8 + (x52.toNat : Int)) then
        some (8 + (x52.toNat : Int))
       else none
      else none
     else none
    else none
   else
    if InR .u8 (x_0) then
     if (0 : Int) ≤ x_0 then
      ((tB : List UInt8)[x_0.toNat]?).bind fun x58 =>
      if InR .i64 ((x58.toNat : Int)) then
       if InR .i64 (0 + (x58.toNat : Int)) then
        some (0 + (x58.toNat : Int))
       else none
      else none
     else none
    else none
theorem math_bits_Len64_ret (x_0 : Int) (r : Int) (h : math_bits_Len64 x_0 = some r) : Ret Tryz.prog G0 123 [.int .u64 x_0] (.int .i64 r) [] := by
 unfold math_bits_Len64 at h
 let f131 : List CH := (cs 2 [oa])
 rcases itS h with ⟨c1, h⟩ | ⟨c1, h⟩
 ·let f132 : List CH := (bt :: oc :: oa :: (cs 3 [oa]))
  rcases itS h with ⟨c2, h⟩ | ⟨c2, h⟩
  ·obtain ⟨y3, h4, h⟩ := bnS h
   let f133 : List CH := (bt :: oc :: oa :: (.tr (.eqt (.t 10) (.int .u64 y3))) :: (cs 5 [oa]))
   have g134 := k2 (dT c1) (k2 ((by decide) : (0 : Int) ≤ 32) (k2 (dT c2) (k2 ((by decide) : (0 : Int) ≤ 16) (ok1 ((congrArg _ (Option.some.inj h4)) : (.int .u64 (Int.fdiv (Int.fdiv x_0 (2 ^ (min (Int.toNat 32) (IntKind.bits .u64)))) (2 ^ (min (Int.toNat 16) (IntKind.bits .u64)))) : AV) = .int .u64 y3)))))
   rcases itS h with ⟨c5, h⟩ | ⟨c5, h⟩
   ·obtain ⟨h6, h⟩ := gdS h
    obtain ⟨h7, h⟩ := gdS h
    obtain ⟨x8, h9, h⟩ := bnS h
    obtain ⟨h10, h⟩ := gdS h
    obtain ⟨h11, h⟩ := gdS h
    obtain rfl := oI h
    exact Ret.of_view 400 (f131 ++ (f132 ++ (f133 ++ (bt :: oc :: oa :: (cs 6 [ow, .op none (.i (Int.toNat (Int.fdiv y3 (2 ^ (min (Int.toNat 8) (IntKind.bits .u64)))))), .tr (.eqt (.t 22) (.int .u8 (x8.toNat : Int))), ow, ow, oc]))))) [] (by kernel_rfl) (by kernel_rfl) (aO g134 (k2 (dT c5) (k2 ((by decide) : (0 : Int) ≤ 8) (k2 h6 (k2 (ix h7 h9) (k2 ((getD_u8 h9) : (.int .u8 ((List.getD (tB : List UInt8) (Int.toNat (Int.fdiv y3 (2 ^ (min (Int.toNat 8) (IntKind.bits .u64))))) 0).toNat : Int) : AV) = .int .u8 (x8.toNat : Int)) (k2 h10 (ok1 h11))))))))
   ·obtain ⟨h12, h⟩ := gdS h
    obtain ⟨h13, h⟩ := gdS h
    obtain ⟨x14, h15, h⟩ := bnS h
    obtain ⟨h16, h⟩ := gdS h
    obtain ⟨h17, h⟩ := gdS h
    obtain rfl := oI h
    exact Ret.of_view 400 (f131 ++ (f132 ++ (f133 ++ (bf :: (cs 2 [ow, .op none (.i y3.toNat), .tr (.eqt (.t 22) (.int .u8 (x14.toNat : Int))), ow, ow, oc]))))) [] (by kernel_rfl) (by kernel_rfl) (aO g134 (k2 (dF c5) (k2 h12 (k2 (ix h13 h15) (k2 ((getD_u8 h15) : (.int .u8 ((List.getD (tB : List UInt8) y3.toNat 0).toNat : Int) : AV) = .int .u8 (x14.toNat : Int)) (k2 h16 (ok1 h17)))))))
  ·let f135 : List CH := [.br false, oc, oa]
   have g136 := k2 (dT c1) (k2 ((by decide) : (0 : Int) ≤ 32) (ok1 (dF c2)))
   rcases itS h with ⟨c18, h⟩ | ⟨c18, h⟩
   ·obtain ⟨y19, h20, h⟩ := bnS h
    obtain ⟨h21, h⟩ := gdS h
    obtain ⟨h22, h⟩ := gdS h
    obtain ⟨x23, h24, h⟩ := bnS h
    obtain ⟨h25, h⟩ := gdS h
    obtain ⟨h26, h⟩ := gdS h
    obtain rfl := oI h
    exact Ret.of_view 400 (f131 ++ (f132 ++ (f135 ++ (bt :: oc :: oa :: (.tr (.eqt (.t 16) (.int .u64 y19))) :: (cs 6 [ow, .op none (.i y19.toNat), .tr (.eqt (.t 22) (.int .u8 (x23.toNat : Int))), ow, ow, oc]))))) [] (by kernel_rfl) (by kernel_rfl) (aO g136 (k2 (dT c18) (k2 ((by decide) : (0 : Int) ≤ 8) (k2 ((congrArg _ (Option.some.inj h20)) : (.int .u64 (Int.fdiv (Int.fdiv x_0 (2 ^ (min (Int.toNat 32) (IntKind.bits .u64)))) (2 ^ (min (Int.toNat 8) (IntKind.bits .u64)))) : AV) = .int .u64 y19) (k2 h21 (k2 (ix h22 h24) (k2 ((getD_u8 h24) : (.int .u8 ((List.getD (tB : List UInt8) y19.toNat 0).toNat : Int) : AV) = .int .u8 (x23.toNat : Int)) (k2 h25 (ok1 h26)))))))))
   ·obtain ⟨h27, h⟩ := gdS h
    obtain ⟨h28, h⟩ := gdS h
    obtain ⟨x29, h30, h⟩ := bnS h
    obtain ⟨h31, h⟩ := gdS h
    obtain ⟨h32, h⟩ := gdS h
    obtain rfl := oI h
    exact Ret.of_view 400 (f131 ++ (f132 ++ (f135 ++ (bf :: (cs 2 [ow, .op none (.i (Int.toNat (Int.fdiv x_0 (2 ^ (min (Int.toNat 32) (IntKind.bits .u64)))))), .tr (.eqt (.t 22) (.int .u8 (x29.toNat : Int))), ow, ow, oc]))))) [] (by kernel_rfl) (by kernel_rfl) (aO g136 (k2 (dF c18) (k2 h27 (k2 (ix h28 h30) (k2 ((getD_u8 h30) : (.int .u8 ((List.getD (tB : List UInt8) (Int.toNat (Int.fdiv x_0 (2 ^ (min (Int.toNat 32) (IntKind.bits .u64))))) 0).toNat : Int) : AV) = .int .u8 (x29.toNat : Int)) (k2 h31 (ok1 h32)))))))
 ·let f137 : List CH := [.br false, oc, oa]
  rcases itS h with ⟨c33, h⟩ | ⟨c33, h⟩
  ·let f138 : List CH := (bt :: oc :: oa :: (cs 5 [oa]))
   have g139 := k2 (dF c1) (k2 (dT c33) (ok1 ((by decide) : (0 : Int) ≤ 16)))
   rcases itS h with ⟨c34, h⟩ | ⟨c34, h⟩
   ·obtain ⟨y35, h36, h⟩ := bnS h
    obtain ⟨h37, h⟩ := gdS h
    obtain ⟨h38, h⟩ := gdS h
    obtain ⟨x39, h40, h⟩ := bnS h
    obtain ⟨h41, h⟩ := gdS h
    obtain ⟨h42, h⟩ := gdS h
    obtain rfl := oI h
    exact Ret.of_view 400 (f131 ++ (f137 ++ (f138 ++ (bt :: oc :: oa :: (.tr (.eqt (.t 16) (.int .u64 y35))) :: (cs 6 [ow, .op none (.i y35.toNat), .tr (.eqt (.t 22) (.int .u8 (x39.toNat : Int))), ow, ow, oc]))))) [] (by kernel_rfl) (by kernel_rfl) (aO g139 (k2 (dT c34) (k2 ((by decide) : (0 : Int) ≤ 8) (k2 ((congrArg _ (Option.some.inj h36)) : (.int .u64 (Int.fdiv (Int.fdiv x_0 (2 ^ (min (Int.toNat 16) (IntKind.bits .u64)))) (2 ^ (min (Int.toNat 8) (IntKind.bits .u64)))) : AV) = .int .u64 y35) (k2 h37 (k2 (ix h38 h40) (k2 ((getD_u8 h40) : (.int .u8 ((List.getD (tB : List UInt8) y35.toNat 0).toNat : Int) : AV) = .int .u8 (x39.toNat : Int)) (k2 h41 (ok1 h42)))))))))
   ·obtain ⟨h43, h⟩ := gdS h
    obtain ⟨h44, h⟩ := gdS h
    obtain ⟨x45, h46, h⟩ := bnS h
    obtain ⟨h47, h⟩ := gdS h
    obtain ⟨h48, h⟩ := gdS h
    obtain rfl := oI h
    exact Ret.of_view 400 (f131 ++ (f137 ++ (f138 ++ (bf :: (cs 2 [ow, .op none (.i (Int.toNat (Int.fdiv x_0 (2 ^ (min (Int.toNat 16) (IntKind.bits .u64)))))), .tr (.eqt (.t 22) (.int .u8 (x45.toNat : Int))), ow, ow, oc]))))) [] (by kernel_rfl) (by kernel_rfl) (aO g139 (k2 (dF c34) (k2 h43 (k2 (ix h44 h46) (k2 ((getD_u8 h46) : (.int .u8 ((List.getD (tB : List UInt8) (Int.toNat (Int.fdiv x_0 (2 ^ (min (Int.toNat 16) (IntKind.bits .u64))))) 0).toNat : Int) : AV) = .int .u8 (x45.toNat : Int)) (k2 h47 (ok1 h48)))))))
  ·let f140 : List CH := [.br false, oc, oa]
   rcases itS h with ⟨c49, h⟩ | ⟨c49, h⟩
   ·obtain ⟨h50, h⟩ := gdS h
    obtain ⟨h51, h⟩ := gdS h
    obtain ⟨x52, h53, h⟩ := bnS h
    obtain ⟨h54, h⟩ := gdS h
    obtain ⟨h55, h⟩ := gdS h
    obtain rfl := oI h
    exact Ret.of_view 400 (f131 ++ (f137 ++ (f140 ++ (bt :: oc :: oa :: (cs 6 [ow, .op none (.i (Int.toNat (Int.fdiv x_0 (2 ^ (min (Int.toNat 8) (IntKind.bits .u64)))))), .tr (.eqt (.t 22) (.int .u8 (x52.toNat : Int))), ow, ow, oc]))))) [] (by kernel_rfl) (by kernel_rfl) (k2 (dF c1) (k2 (dF c33) (k2 (dT c49) (k2 ((by decide) : (0 : Int) ≤ 8) (k2 h50 (k2 (ix h51 h53) (k2 ((getD_u8 h53) : (.int .u8 ((List.getD (tB : List UInt8) (Int.toNat (Int.fdiv x_0 (2 ^ (min (Int.toNat 8) (IntKind.bits .u64))))) 0).toNat : Int) : AV) = .int .u8 (x52.toNat : Int)) (k2 h54 (ok1 h55)))))))))
   ·obtain ⟨h56, h⟩ := gdS h
    obtain ⟨h57, h⟩ := gdS h
    obtain ⟨x58, h59, h⟩ := bnS h
    obtain ⟨h60, h⟩ := gdS h
    obtain ⟨h61, h⟩ := gdS h
    obtain rfl := oI h
    exact Ret.of_view 400 (f131 ++ (f137 ++ (f140 ++ (bf :: (cs 2 [ow, .op none (.i x_0.toNat), .tr (.eqt (.t 22) (.int .u8 (x58.toNat : Int))), ow, ow, oc]))))) [] (by kernel_rfl) (by kernel_rfl) (k2 (dF c1) (k2 (dF c33) (k2 (dF c49) (k2 h56 (k2 (ix h57 h59) (k2 ((getD_u8 h59) : (.int .u8 ((List.getD (tB : List UInt8) x_0.toNat 0).toNat : Int) : AV) = .int .u8 (x58.toNat : Int)) (k2 h60 (ok1 h61))))))))
def math_bits_Len (x_0 : Int) : Option Int :=
 (math_bits_Len64 x_0).bind fun r1 =>
 some r1
theorem math_bits_Len_ret (x_0 : Int) (r : Int) (h : math_bits_Len x_0 = some r) : Ret Tryz.prog G0 86 [.int .u64 x_0] (.int .i64 r) [] := by
 unfold math_bits_Len at h
 obtain ⟨r1, h2, h⟩ := bnS h
 obtain rfl := oI h
 exact Ret.of_view 400 [oc, .br false, oc, .ret none [.any] (jI r1) [], oc] [] (by kernel_rfl) (by kernel_rfl) (k2 (rfl : false = false) (ok1 (math_bits_Len64_ret x_0 r1 h2)))
def slices_nextPowerOfTwo (length_0 : Int) : Option Int :=
 if InR .u64 (length_0) then
  (math_bits_Len length_0).bind fun r2 =>
  if (0 : Int) ≤ r2 then
   if InR .u64 (1 * 2 ^ (min r2.toNat (IntKind.bits .u64))) then
    some (1 * 2 ^ (min r2.toNat (IntKind.bits .u64)))
   else none
  else none
 else none
theorem slices_nextPowerOfTwo_ret (length_0 : Int) (r : Int) (h : slices_nextPowerOfTwo length_0 = some r) : Ret Tryz.prog G0 182 [.int .i64 length_0] (.int .u64 r) [] := by
 unfold slices_nextPowerOfTwo at h
 obtain ⟨h1, h⟩ := gdS h
 obtain ⟨r2, h3, h⟩ := bnS h
 obtain ⟨h4, h⟩ := gdS h
 obtain ⟨h5, h⟩ := gdS h
 obtain rfl := oI h
 exact Ret.of_view 400 (cs 2 [ow, .ret none [.any] (jI r2) [], ow, oc]) [] (by kernel_rfl) (by kernel_rfl) (k2 h1 (k2 (math_bits_Len_ret length_0 r2 h3) (k2 h4 (ok1 h5))))
abbrev cFn (c : TB) : AV := .fn (.func 74) [.agg [.lst (fl TC.enc c.ucharges) (c.ucharges.length)]] []
end
set_option maxHeartbeats 4000000
set_option maxRecDepth 100000
noncomputable section
open Go Go.Proofs
def sOrder2 (c : TB) (l : (List Int)) (a : Int) (b : Int) (sw : Int) : Option (Int × Int × Int) :=
 if (0 : Int) ≤ b then
  (l[b.toNat]?).bind fun x2 =>
  if (0 : Int) ≤ a then
   (l[a.toNat]?).bind fun x5 =>
   (cCmp c x2 x5).bind fun r7 =>
   if r7 < (0 : Int) then
    if InR .i64 (sw + 1) then
     some ((sw + 1), b, a)
    else none
   else
    some (sw, a, b)
  else none
 else none
theorem sOrder2_ret (c : TB) (l : (List Int)) (a : Int) (b : Int) (sw : Int) (r : (Int × Int × Int)) (h : sOrder2 c l a b sw = some r) : CallsM Tryz.prog G0 2 271 [.vec 0 l.length 1, .int .i64 a, .int .i64 b, .ptr 1 0, cFn c] [(bV (fl e_i64 l) 3), (bT [.int .i64 sw] 3)] (.tup [.int .i64 r.2.1, .int .i64 r.2.2]) [(bV (fl e_i64 l) 3), (bT [.int .i64 r.1] 3)] := by
 unfold sOrder2 at h
 obtain ⟨h1, h⟩ := gdS h
 obtain ⟨x2, h3, h⟩ := bnS h
 obtain ⟨h4, h⟩ := gdS h
 obtain ⟨x5, h6, h⟩ := bnS h
 obtain ⟨r7, h8, h⟩ := bnS h
 let f141 : List CH := (cs 5 ((.op none (.i b.toNat)) :: (vI x2) :: (cs 2 [.op none (.i a.toNat), vI x5, .ret none [.any, .any, .any] (.int .i64 r7) [], oa])))
 have g142 := k2 (ix h1 h3) (k2 (s_i64 h3) (k2 (ix h4 h6) (k2 (s_i64 h6) (ok1 (cCmp_ret c x2 x5 r7 h8)))))
 rcases itS h with ⟨c9, h⟩ | ⟨c9, h⟩
 ·obtain ⟨h10, h⟩ := gdS h
  obtain rfl := oI h
  exact CallsM.of_view 2 400 (f141 ++ (bt :: (cs 3 (ow :: (cs 6 []))))) [0, 1] (by kernel_rfl) (by kernel_rfl) (aO g142 (k2 (dT c9) (ok1 h10)))
 ·obtain rfl := oI h
  exact CallsM.of_view 2 400 (f141 ++ (bf :: (cs 4 []))) [0, 1] (by kernel_rfl) (by kernel_rfl) (aO g142 (ok1 (dF c9)))
def sMedian (c : TB) (l : (List Int)) (a : Int) (b : Int) (d : Int) (sw : Int) : Option (Int × Int) :=
 (sOrder2 c l a b sw).bind fun r1 =>
 (sOrder2 c l r1.2.2 d r1.1).bind fun r3 =>
 (sOrder2 c l r1.2.1 r3.2.1 r3.1).bind fun r5 =>
 some (r5.1, r5.2.2)
theorem sMedian_ret (c : TB) (l : (List Int)) (a : Int) (b : Int) (d : Int) (sw : Int) (r : (Int × Int)) (h : sMedian c l a b d sw = some r) : CallsM Tryz.prog G0 2 193 [.vec 0 l.length 1, .int .i64 a, .int .i64 b, .int .i64 d, .ptr 1 0, cFn c] [(bV (fl e_i64 l) 3), (bT [.int .i64 sw] 3)] (.int .i64 r.2) [(bV (fl e_i64 l) 3), (bT [.int .i64 r.1] 3)] := by
 unfold sMedian at h
 obtain ⟨r1, h2, h⟩ := bnS h
 obtain ⟨r3, h4, h⟩ := bnS h
 obtain ⟨r5, h6, h⟩ := bnS h
 obtain rfl := oI h
 exact CallsM.of_view 2 400 (cs 7 ((.spec (fspec 2 [0, 1] [.vec 0 l.length 1, jI a, jI b, .ptr 1 0, cFn c] [(bV (fl e_i64 l) 3), (bT [jI sw] 3)] (.tup [jI r1.2.1, jI r1.2.2]) [(bV (fl e_i64 l) 3), (bT [jI r1.1] 3)])) :: (cs 11 ((.spec (fspec 2 [0, 1] [.vec 0 l.length 1, jI r1.2.2, jI d, .ptr 1 0, cFn c] [(bV (fl e_i64 l) 3), (bT [jI r1.1] 3)] (.tup [jI r3.2.1, jI r3.2.2]) [(bV (fl e_i64 l) 3), (bT [jI r3.1] 3)])) :: (cs 11 ((.spec (fspec 2 [0, 1] [.vec 0 l.length 1, jI r1.2.1, jI r3.2.1, .ptr 1 0, cFn c] [(bV (fl e_i64 l) 3), (bT [jI r3.1] 3)] (.tup [jI r5.2.1, jI r5.2.2]) [(bV (fl e_i64 l) 3), (bT [jI r5.1] 3)])) :: (cs 7 []))))))) [0, 1] (by kernel_rfl) (by kernel_rfl) (k2 ((fspec_ok _ (sOrder2_ret c l a b sw r1 h2)) : SpecOk Tryz.prog G0 271 (fspec 2 [0, 1] [.vec 0 l.length 1, jI a, jI b, .ptr 1 0, cFn c] [(bV (fl e_i64 l) 3), (bT [jI sw] 3)] (.tup [jI r1.2.1, jI r1.2.2]) [(bV (fl e_i64 l) 3), (bT [jI r1.1] 3)])) (k2 (⟨rfl, rfl, rfl, trivial⟩ : (([.vec 0 l.length 1, jI a, jI b, .ptr 1 0, cFn c] : List AV) = [.vec 0 l.length 1, jI a, jI b, .ptr 1 0, cFn c]) ∧ (some (Ob.blk (bV (fl e_i64 l) 3)) = some (Ob.blk (bV (fl e_i64 l) 3))) ∧ (some (Ob.blk (bT [jI sw] 3)) = some (Ob.blk (bT [jI sw] 3))) ∧ True) (k2 ((fspec_ok _ (sOrder2_ret c l r1.2.2 d r1.1 r3 h4)) : SpecOk Tryz.prog G0 271 (fspec 2 [0, 1] [.vec 0 l.length 1, jI r1.2.2, jI d, .ptr 1 0, cFn c] [(bV (fl e_i64 l) 3), (bT [jI r1.1] 3)] (.tup [jI r3.2.1, jI r3.2.2]) [(bV (fl e_i64 l) 3), (bT [jI r3.1] 3)])) (k2 (⟨rfl, rfl, rfl, trivial⟩ : (([.vec 0 l.length 1, jI r1.2.2, jI d, .ptr 1 0, cFn c] : List AV) = [.vec 0 l.length 1, jI r1.2.2, jI d, .ptr 1 0, cFn c]) ∧ (some (Ob.blk (bV (fl e_i64 l) 3)) = some (Ob.blk (bV (fl e_i64 l) 3))) ∧ (some (Ob.blk (bT [jI r1.1] 3)) = some (Ob.blk (bT [jI r1.1] 3))) ∧ True) (k2 ((fspec_ok _ (sOrder2_ret c l r1.2.1 r3.2.1 r3.1 r5 h6)) : SpecOk Tryz.prog G0 271 (fspec 2 [0, 1] [.vec 0 l.length 1, jI r1.2.1, jI r3.2.1, .ptr 1 0, cFn c] [(bV (fl e_i64 l) 3), (bT [jI r3.1] 3)] (.tup [jI r5.2.1, jI r5.2.2]) [(bV (fl e_i64 l) 3), (bT [jI r5.1] 3)])) (ok1 (⟨rfl, rfl, rfl, trivial⟩ : (([.vec 0 l.length 1, jI r1.2.1, jI r3.2.1, .ptr 1 0, cFn c] : List AV) = [.vec 0 l.length 1, jI r1.2.1, jI r3.2.1, .ptr 1 0, cFn c]) ∧ (some (Ob.blk (bV (fl e_i64 l) 3)) = some (Ob.blk (bV (fl e_i64 l) 3))) ∧ (some (Ob.blk (bT [jI r3.1] 3)) = some (Ob.blk (bT [jI r3.1] 3))) ∧ True)))))))
def sInsertion_L94_step (c : TB) (a : Int) (b : Int) (v8 : Int) (b0 : (List Int)) : (Int × (List Int)) → Option ((Int × (List Int)) ⊕ (List Int))
 | (v9, b0) =>
  if v9 > a then
   if (0 : Int) ≤ v9 then
    (b0[v9.toNat]?).bind fun x125 =>
    if InR .i64 (v9 - 1) then
     if (0 : Int) ≤ (v9 - 1) then
      (b0[(Int.toNat (v9 - 1))]?).bind fun x129 =>
      (cCmp c x125 x129).bind fun r131 =>
      if r131 < (0 : Int) then
       if (Int.toNat (v9 - 1)) < b0.length then
        ((List.set b0 v9.toNat x129)[(Int.toNat (v9 - 1))]?).bind fun x135 =>
        some (Sum.inl ((v9 - 1), (List.set (List.set b0 v9.toNat x129) (Int.toNat (v9 - 1)) x125)))
       else none
      else
       some (Sum.inr b0)
     else none
    else none
   else none
  else
   some (Sum.inr b0)
def sInsertion_L94_H (c : TB) (a : Int) (b : Int) (v8 : Int) (b0 : (List Int)) : (Int × (List Int)) → St := fun (s : (Int × (List Int))) => S 53 [(0, .vec 0 s.2.length 1), (1, .int .i64 a), (2, .int .i64 b), (3, cFn c), (8, .int .i64 v8), (9, .int .i64 s.1)] [(bV (fl e_i64 s.2) 3)]
def sInsertion_L94_X (c : TB) (a : Int) (b : Int) (v8 : Int) (b0 : (List Int)) : (List Int) → AEx := fun o => (.exit 2)
def sInsertion_L94_T (c : TB) (a : Int) (b : Int) (v8 : Int) (b0 : (List Int)) : (List Int) → List (Nat × AV) := fun o => [(0, .vec 0 o.length 1), (1, .int .i64 a), (2, .int .i64 b), (3, cFn c), (8, .int .i64 v8)]
def sInsertion_L94_B (c : TB) (a : Int) (b : Int) (v8 : Int) (b0 : (List Int)) : (List Int) → List Blk := fun o => [(bV (fl e_i64 o) 3)]
def sInsertion_L94_E (c : TB) (a : Int) (b : Int) (v8 : Int) (b0 : (List Int)) (q : (List Int)) : St := S 53 (sInsertion_L94_T c a b v8 b0 q) (sInsertion_L94_B c a b v8 b0 q)
theorem sInsertion_L94_does (c : TB) (a : Int) (b : Int) (v8 : Int) (b0 : (List Int)) {s : (Int × (List Int))} {r : (List Int)} (h : lp (sInsertion_L94_step c a b v8 b0) s = some r) : Does Tryz.prog G0 1 (.loop (bodyAt Tryz.prog 135 [1, 0, 0, 1, 0, 0, 1, 0, 0])) (sInsertion_L94_H c a b v8 b0 s) (sInsertion_L94_X c a b v8 b0 r) (sInsertion_L94_E c a b v8 b0 r) := by
 refine Does.lp (H := sInsertion_L94_H c a b v8 b0) (X := sInsertion_L94_X c a b v8 b0) (E := sInsertion_L94_E c a b v8 b0) (fun s s2 h => ?_) (fun s r h => ?_) h
 ·obtain ⟨v9, b0⟩ := s
  unfold sInsertion_L94_step at h
  try dsimp only at h
  rcases itS h with ⟨c123, h⟩ | ⟨c123, h⟩
  ·obtain ⟨h124, h⟩ := gdS h
   obtain ⟨x125, h126, h⟩ := bnS h
   obtain ⟨h127, h⟩ := gdS h
   obtain ⟨h128, h⟩ := gdS h
   obtain ⟨x129, h130, h⟩ := bnS h
   obtain ⟨r131, h132, h⟩ := bnS h
   rcases itS h with ⟨c133, h⟩ | ⟨c133, h⟩
   ·obtain ⟨h134, h⟩ := gdS h
    obtain ⟨x135, h136, h⟩ := bnS h
    obtain rfl := oL h
    simp only [sInsertion_L94_H, List.length_set]
    exact Does.of_viewM 1 400 (cs 2 (oa :: oc :: tc :: tc :: tc :: (.op (some true) (.i v9.toNat)) :: (.op (some true) (.v [jI x125])) :: tc :: tc :: tw :: (.op (some true) (.i (Int.toNat (v9 - 1)))) :: (.op (some true) (.v [jI x129])) :: (.ret (some true) [.any, .any, .any] (jI r131) []) :: ta :: (.op none (.b true)) :: bt :: (cs 4 (ow :: (cs 2 (ow :: (.op none (.i (Int.toNat (v9 - 1)))) :: (vI x129) :: (cs 2 [.op none (.i v9.toNat), vI x125, .op none (.i v9.toNat), oa, .trp (.eqc 0 (fl e_i64 (List.set b0 v9.toNat x129))), .op none (.i (Int.toNat (v9 - 1))), oa, .trp (.eqc 0 (fl e_i64 (List.set (List.set b0 v9.toNat x129) (Int.toNat (v9 - 1)) x125))), oc, ow, oc]))))))) [0] (by kernel_rfl) (by kernel_rfl) (k2 (dT c123) (k2 (dT c123) (k2 (dT c123) (k2 (dT c123) (k2 (ix h124 h126) (k2 (dT c123) (k2 (s_i64 h126) (k2 (dT c123) (k2 (dT c123) (k2 (dT c123) (k2 h127 (k2 (dT c123) (k2 (ix h128 h130) (k2 (dT c123) (k2 (s_i64 h130) (k2 (dT c123) (k2 (cCmp_ret c x125 x129 r131 h132) (k2 (dT c123) (k2 (dT c123) (k2 (dT c133) (k2 h127 (k2 h127 (k2 (ix h128 h130) (k2 (s_i64 h130) (k2 (ix h124 h126) (k2 (s_i64 h126) (k2 (ix h124 h126) (k2 (rm_i64 h126) (k2 (st_i64 x129 h126) (k2 (iy h128 h134) (k2 (rm_i64 h136) (k2 (st_i64 x125 h136) (ok1 h127)))))))))))))))))))))))))))))))))
   ·simp at h
  ·simp at h
 ·obtain ⟨v9, b0⟩ := s
  unfold sInsertion_L94_step at h
  try dsimp only at h
  let f145 : List CH := (cs 2 [oa, oc])
  rcases itS h with ⟨c123, h⟩ | ⟨c123, h⟩
  ·obtain ⟨h124, h⟩ := gdS h
   obtain ⟨x125, h126, h⟩ := bnS h
   obtain ⟨h127, h⟩ := gdS h
   obtain ⟨h128, h⟩ := gdS h
   obtain ⟨x129, h130, h⟩ := bnS h
   obtain ⟨r131, h132, h⟩ := bnS h
   rcases itS h with ⟨c133, h⟩ | ⟨c133, h⟩
   ·obtain ⟨h134, h⟩ := gdS h
    obtain ⟨x135, h136, h⟩ := bnS h
    simp at h
   ·obtain rfl := oR h
    exact ⟨Does.of_viewM 1 400 (f145 ++ [tc, tc, tc, .op (some true) (.i v9.toNat), .op (some true) (.v [jI x125]), tc, tc, tw, .op (some true) (.i (Int.toNat (v9 - 1))), .op (some true) (.v [jI x129]), .ret (some true) [.any, .any, .any] (jI r131) [], ta, .op none (.b true), .br false]) [0] (by kernel_rfl) (by kernel_rfl) (k2 (dT c123) (k2 (dT c123) (k2 (dT c123) (k2 (dT c123) (k2 (ix h124 h126) (k2 (dT c123) (k2 (s_i64 h126) (k2 (dT c123) (k2 (dT c123) (k2 (dT c123) (k2 h127 (k2 (dT c123) (k2 (ix h128 h130) (k2 (dT c123) (k2 (s_i64 h130) (k2 (dT c123) (k2 (cCmp_ret c x125 x129 r131 h132) (k2 (dT c123) (k2 (dT c123) (ok1 (dF c133))))))))))))))))))))), by intro q; cases q⟩
  ·obtain rfl := oR h
   exact ⟨Does.of_viewM 1 400 (f145 ++ [.op (some false) .c, .op (some false) .c, .op (some false) .c, .op (some false) .c, .op (some false) .c, .op (some false) .c, .op (some false) .c, .op (some false) .c, .op (some false) .c, .op (some false) .c, .op (some false) .c, .op (some false) .c, .op none (.b false), .br false]) [0] (by kernel_rfl) (by kernel_rfl) (k2 (dF c123) (k2 (dF c123) (k2 (dF c123) (k2 (dF c123) (k2 (dF c123) (k2 (dF c123) (k2 (dF c123) (k2 (dF c123) (k2 (dF c123) (k2 (dF c123) (k2 (dF c123) (k2 (dF c123) (k2 (dF c123) (ok1 (rfl : false = false))))))))))))))), by intro q; cases q⟩
def sInsertion_L2_step (c : TB) (a : Int) (b : Int) : (Int × (List Int)) → Option ((Int × (List Int)) ⊕ (List Int))
 | (v8, b0) =>
  if v8 < b then
   (lp (sInsertion_L94_step c a b v8 b0) (v8, b0)).bind fun o94 =>
   if InR .i64 (v8 + 1) then
    some (Sum.inl ((v8 + 1), o94))
   else none
  else
   some (Sum.inr b0)
def sInsertion_L2_H (c : TB) (a : Int) (b : Int) : (Int × (List Int)) → St := fun (s : (Int × (List Int))) => S 53 [(0, .vec 0 s.2.length 1), (1, .int .i64 a), (2, .int .i64 b), (3, cFn c), (8, .int .i64 s.1)] [(bV (fl e_i64 s.2) 3)]
def sInsertion_L2_X (c : TB) (a : Int) (b : Int) : (List Int) → AEx := fun o => (.exit 0)
def sInsertion_L2_T (c : TB) (a : Int) (b : Int) : (List Int) → List (Nat × AV) := fun o => []
def sInsertion_L2_B (c : TB) (a : Int) (b : Int) : (List Int) → List Blk := fun o => [(bV (fl e_i64 o) 3)]
def sInsertion_L2_E (c : TB) (a : Int) (b : Int) (q : (List Int)) : St := S 53 (sInsertion_L2_T c a b q) (sInsertion_L2_B c a b q)
theorem sInsertion_L2_does (c : TB) (a : Int) (b : Int) {s : (Int × (List Int))} {r : (List Int)} (h : lp (sInsertion_L2_step c a b) s = some r) : Does Tryz.prog G0 1 (.loop (bodyAt Tryz.prog 135 [1, 0, 0])) (sInsertion_L2_H c a b s) (sInsertion_L2_X c a b r) (sInsertion_L2_E c a b r) := by
 refine Does.lp (H := sInsertion_L2_H c a b) (X := sInsertion_L2_X c a b) (E := sInsertion_L2_E c a b) (fun s s2 h => ?_) (fun s r h => ?_) h
 ·obtain ⟨v8, b0⟩ := s
  unfold sInsertion_L2_step at h
  try dsimp only at h
  rcases itS h with ⟨c93, h⟩ | ⟨c93, h⟩
  ·obtain ⟨o94, hl94, h⟩ := bnS h
   obtain ⟨h137, h⟩ := gdS h
   obtain rfl := oL h
   exact Does.of_viewM 1 400 (cs 2 (oa :: bt :: (cs 2 [.fcut 1 (.exit 2) (sInsertion_L94_T c a b v8 b0 o94) [(bV (fl e_i64 o94) 3)] [0] [(0, .any), (1, .any), (2, .any), (3, .any), (8, .any), (9, .any)] [bS], oc, ow, oc]))) [0] (by kernel_rfl) (by kernel_rfl) (k2 (dT c93) (k2 (sInsertion_L94_does c a b v8 b0 (s := (v8, b0)) (r := o94) hl94) (ok1 h137)))
  ·simp at h
 ·obtain ⟨v8, b0⟩ := s
  unfold sInsertion_L2_step at h
  try dsimp only at h
  rcases itS h with ⟨c93, h⟩ | ⟨c93, h⟩
  ·obtain ⟨o94, hl94, h⟩ := bnS h
   obtain ⟨h137, h⟩ := gdS h
   simp at h
  ·obtain rfl := oR h
   exact ⟨Does.of_viewM 1 400 (cs 2 [oa, .br false]) [0] (by kernel_rfl) (by kernel_rfl) (ok1 (dF c93)), by intro q; cases q⟩
def sInsertion (c : TB) (l : (List Int)) (a : Int) (b : Int) : Option (List Int) :=
 if InR .i64 (a + 1) then
  (lp (sInsertion_L2_step c a b) ((a + 1), l)).bind fun o2 =>
  some o2
 else none
theorem sInsertion_ret (c : TB) (l : (List Int)) (a : Int) (b : Int) (r : (List Int)) (h : sInsertion c l a b = some r) : CallsM Tryz.prog G0 1 135 [.vec 0 l.length 1, .int .i64 a, .int .i64 b, cFn c] [(bV (fl e_i64 l) 3)] (.tup []) [(bV (fl e_i64 r) 3)] := by
 unfold sInsertion at h
 obtain ⟨h1, h⟩ := gdS h
 obtain ⟨o2, hl2, h⟩ := bnS h
 obtain rfl := oI h
 exact CallsM.of_view 1 400 [oc, ow, oc, .fcut 1 (.exit 0) [] [(bV (fl e_i64 o2) 3)] [0] [(0, .any), (1, .any), (2, .any), (3, .any), (8, .any)] [bS]] [0] (by kernel_rfl) (by kernel_rfl) (k2 h1 (ok1 (sInsertion_L2_does c a b (s := ((a + 1), l)) (r := o2) hl2)))
def sSift_L1_step (c : TB) (hi : Int) (first : Int) : (Int × (List Int)) → Option ((Int × (List Int)) ⊕ ((List Int) ⊕ (List Int)))
 | (v10, b0) =>
  if InR .i64 (2 * v10) then
   if InR .i64 ((2 * v10) + 1) then
    if ((2 * v10) + 1) ≥ hi then
     some (Sum.inr (Sum.inl b0))
    else
     if InR .i64 (((2 * v10) + 1) + 1) then
      if (((2 * v10) + 1) + 1) < hi then
       if InR .i64 (first + ((2 * v10) + 1)) then
        if (0 : Int) ≤ (first + ((2 * v10) + 1)) then
         (b0[(Int.toNat (first + ((2 * v10) + 1)))]?).bind fun x117 =>
         if InR .i64 ((first + ((2 * v10) + 1)) + 1) then
          if (0 : Int) ≤ ((first + ((2 * v10) + 1)) + 1) then
           (b0[(Int.toNat ((first + ((2 * v10) + 1)) + 1))]?).bind fun x121 =>
           (cCmp c x117 x121).bind fun r123 =>
           if r123 < (0 : Int) then
            if InR .i64 (first + v10) then
             if (0 : Int) ≤ (first + v10) then
              (b0[(Int.toNat (first + v10))]?).bind fun x128 =>
              if InR .i64 (first + (((2 * v10) + 1) + 1)) then
               if (0 : Int) ≤ (first + (((2 * v10) + 1) + 1)) then
                (b0[(Int.toNat (first + (((2 * v10) + 1) + 1)))]?).bind fun x132 =>
                (cCmp c x128 x132).bind fun r134 =>
                if r134 < (0 : Int) then
                 if (Int.toNat (first + (((2 * v10) + 1) + 1))) < b0.length then
                  ((List.set b0 (Int.toNat (first + v10)) x132)[(Int.toNat (first + (((2 * v10) + 1) + 1)))]?).bind fun x138 =>
                  some (Sum.inl ((((2 * v10) + 1) + 1), (List.set (List.set b0 (Int.toNat (first + v10)) x132) (Int.toNat (first + (((2 * v10) + 1) + 1))) x128)))
                 else none
                else
                 some (Sum.inr (Sum.inr (b0)))
               else none
              else none
             else none
            else none
           else
            if InR .i64 (first + v10) then
             if (0 : Int) ≤ (first + v10) then
              (b0[(Int.toNat (first + v10))]?).bind fun x142 =>
              (cCmp c x142 x117).bind fun r144 =>
              if r144 < (0 : Int) then
               if (Int.toNat (first + ((2 * v10) + 1))) < b0.length then
                ((List.set b0 (Int.toNat (first + v10)) x117)[(Int.toNat (first + ((2 * v10) + 1)))]?).bind fun x148 =>
                some (Sum.inl (((2 * v10) + 1), (List.set (List.set b0 (Int.toNat (first + v10)) x117) (Int.toNat (first + ((2 * v10) + 1))) x142)))
               else none
              else
               some (Sum.inr (Sum.inr (b0)))
             else none
            else none
          else none
         else none
        else none
       else none
      else
       if InR .i64 (first + v10) then
        if (0 : Int) ≤ (first + v10) then
         (b0[(Int.toNat (first + v10))]?).bind fun x152 =>
         if InR .i64 (first + ((2 * v10) + 1)) then
          if (0 : Int) ≤ (first + ((2 * v10) + 1)) then
           (b0[(Int.toNat (first + ((2 * v10) + 1)))]?).bind fun x156 =>
           (cCmp c x152 x156).bind fun r158 =>
           if r158 < (0 : Int) then
            if (Int.toNat (first + ((2 * v10) + 1))) < b0.length then
             ((List.set b0 (Int.toNat (first + v10)) x156)[(Int.toNat (first + ((2 * v10) + 1)))]?).bind fun x162 =>
             some (Sum.inl (((2 * v10) + 1), (List.set (List.set b0 (Int.toNat (first + v10)) x156) (Int.toNat (first + ((2 * v10) + 1))) x152)))
            else none
           else
            some (Sum.inr (Sum.inr (b0)))
          else none
         else none
        else none
       else none
     else none
   else none
  else none
def sSift_L1_H (c : TB) (hi : Int) (first : Int) : (Int × (List Int)) → St := fun (s : (Int × (List Int))) => S 82 [(0, .vec 0 s.2.length 1), (2, .int .i64 hi), (3, .int .i64 first), (4, cFn c), (10, .int .i64 s.1)] [(bV (fl e_i64 s.2) 3)]
def sSift_L1_X (c : TB) (hi : Int) (first : Int) : ((List Int) ⊕ (List Int)) → AEx := fun q => match q with | Sum.inl o => (.exit 0) | Sum.inr (o) => .ret
def sSift_L1_T (c : TB) (hi : Int) (first : Int) : ((List Int) ⊕ (List Int)) → List (Nat × AV) := fun q => match q with | Sum.inl o => [] | Sum.inr (o) => []
def sSift_L1_B (c : TB) (hi : Int) (first : Int) : ((List Int) ⊕ (List Int)) → List Blk := fun q => match q with | Sum.inl o => [(bV (fl e_i64 o) 3)] | Sum.inr (o) => [(bV (fl e_i64 o) 3)]
def sSift_L1_E (c : TB) (hi : Int) (first : Int) (q : (List Int) ⊕ (List Int)) : St := S 82 (sSift_L1_T c hi first q) (sSift_L1_B c hi first q)
theorem sSift_L1_does (c : TB) (hi : Int) (first : Int) {s : (Int × (List Int))} {r : (List Int) ⊕ (List Int)} (h : lp (sSift_L1_step c hi first) s = some r) : Does Tryz.prog G0 1 (.loop (bodyAt Tryz.prog 191 [1, 0, 0])) (sSift_L1_H c hi first s) (sSift_L1_X c hi first r) (sSift_L1_E c hi first r) := by
 refine Does.lp (H := sSift_L1_H c hi first) (X := sSift_L1_X c hi first) (E := sSift_L1_E c hi first) (fun s s2 h => ?_) (fun s r h => ?_) h
 ·obtain ⟨v10, b0⟩ := s
  unfold sSift_L1_step at h
  try dsimp only at h
  obtain ⟨h110, h⟩ := gdS h
  obtain ⟨h111, h⟩ := gdS h
  rcases itS h with ⟨c112, h⟩ | ⟨c112, h⟩
  ·simp at h
  ·obtain ⟨h113, h⟩ := gdS h
   let f146 : List CH := (oc :: ow :: ow :: (cs 3 [oa, .br false, oc, ow, oc, oa, oc]))
   have g147 := k2 h110 (k2 h111 (k2 (dF c112) (ok1 h113)))
   rcases itS h with ⟨c114, h⟩ | ⟨c114, h⟩
   ·obtain ⟨h115, h⟩ := gdS h
    obtain ⟨h116, h⟩ := gdS h
    obtain ⟨x117, h118, h⟩ := bnS h
    obtain ⟨h119, h⟩ := gdS h
    obtain ⟨h120, h⟩ := gdS h
    obtain ⟨x121, h122, h⟩ := bnS h
    obtain ⟨r123, h124, h⟩ := bnS h
    let f148 : List CH := [tc, tc, tc, tc, tw, .op (some true) (.i (Int.toNat (first + ((2 * v10) + 1)))), .op (some true) (.v [.int .i64 x117]), tc, tc, tc, tw, tw, .op (some true) (.i (Int.toNat ((first + ((2 * v10) + 1)) + 1))), .op (some true) (.v [.int .i64 x121]), .ret (some true) [.any, .any, .any] (.int .i64 r123) [], ta, .op none (.b true)]
    have g149 := k2 (dT c114) (k2 (dT c114) (k2 (dT c114) (k2 (dT c114) (k2 (dT c114) (k2 h115 (k2 (dT c114) (k2 (ix h116 h118) (k2 (dT c114) (k2 (s_i64 h118) (k2 (dT c114) (k2 (dT c114) (k2 (dT c114) (k2 (dT c114) (k2 h115 (k2 (dT c114) (k2 h119 (k2 (dT c114) (k2 (ix h120 h122) (k2 (dT c114) (k2 (s_i64 h122) (k2 (dT c114) (k2 (cCmp_ret c x117 x121 r123 h124) (k2 (dT c114) (ok1 (dT c114)))))))))))))))))))))))))
    rcases itS h with ⟨c125, h⟩ | ⟨c125, h⟩
    ·obtain ⟨h126, h⟩ := gdS h
     obtain ⟨h127, h⟩ := gdS h
     obtain ⟨x128, h129, h⟩ := bnS h
     obtain ⟨h130, h⟩ := gdS h
     obtain ⟨h131, h⟩ := gdS h
     obtain ⟨x132, h133, h⟩ := bnS h
     obtain ⟨r134, h135, h⟩ := bnS h
     rcases itS h with ⟨c136, h⟩ | ⟨c136, h⟩
     ·obtain ⟨h137, h⟩ := gdS h
      obtain ⟨x138, h139, h⟩ := bnS h
      obtain rfl := oL h
      simp only [sSift_L1_H, List.length_set]
      exact Does.of_viewM 1 400 (f146 ++ (f148 ++ (bt :: oc :: ow :: (cs 5 (ow :: (.op none (.i (Int.toNat (first + v10)))) :: (vI x128) :: (cs 3 (ow :: (.op none (.i (Int.toNat (first + (((2 * v10) + 1) + 1))))) :: (vI x132) :: (.ret none [.any, .any, .any] (jI r134) []) :: oa :: oc :: bf :: (cs 3 (ow :: (cs 3 (ow :: (cs 3 (ow :: (.op none (.i (Int.toNat (first + (((2 * v10) + 1) + 1))))) :: (vI x132) :: (cs 3 (ow :: (.op none (.i (Int.toNat (first + v10)))) :: (vI x128) :: (.op none (.i (Int.toNat (first + v10)))) :: oa :: (.trp (.eqc 0 (fl e_i64 (List.set b0 (Int.toNat (first + v10)) x132)))) :: (.op none (.i (Int.toNat (first + (((2 * v10) + 1) + 1))))) :: oa :: (.trp (.eqc 0 (fl e_i64 (List.set (List.set b0 (Int.toNat (first + v10)) x132) (Int.toNat (first + (((2 * v10) + 1) + 1))) x128)))) :: (cs 2 [])))))))))))))))) [0] (by kernel_rfl) (by kernel_rfl) (aO g147 (aO g149 (k2 (dT c125) (k2 h113 (k2 h126 (k2 (ix h127 h129) (k2 (s_i64 h129) (k2 h130 (k2 (ix h131 h133) (k2 (s_i64 h133) (k2 (cCmp_ret c x128 x132 r134 h135) (k2 (not_f (dT c136)) (k2 h126 (k2 h130 (k2 h130 (k2 (ix h131 h133) (k2 (s_i64 h133) (k2 h126 (k2 (ix h127 h129) (k2 (s_i64 h129) (k2 (ix h127 h129) (k2 (rm_i64 h129) (k2 (st_i64 x132 h129) (k2 (iy h131 h137) (k2 (rm_i64 h139) (ok1 (st_i64 x128 h139)))))))))))))))))))))))))))
     ·simp at h
    ·obtain ⟨h140, h⟩ := gdS h
     obtain ⟨h141, h⟩ := gdS h
     obtain ⟨x142, h143, h⟩ := bnS h
     obtain ⟨r144, h145, h⟩ := bnS h
     rcases itS h with ⟨c146, h⟩ | ⟨c146, h⟩
     ·obtain ⟨h147, h⟩ := gdS h
      obtain ⟨x148, h149, h⟩ := bnS h
      obtain rfl := oL h
      simp only [sSift_L1_H, List.length_set]
      exact Does.of_viewM 1 400 (f146 ++ (f148 ++ (bf :: (cs 4 (ow :: (.op none (.i (Int.toNat (first + v10)))) :: (vI x142) :: (cs 3 (ow :: (.op none (.i (Int.toNat (first + ((2 * v10) + 1))))) :: (vI x117) :: (.ret none [.any, .any, .any] (jI r144) []) :: oa :: oc :: bf :: (cs 3 (ow :: (cs 3 (ow :: (cs 3 (ow :: (.op none (.i (Int.toNat (first + ((2 * v10) + 1))))) :: (vI x117) :: (cs 3 (ow :: (.op none (.i (Int.toNat (first + v10)))) :: (vI x142) :: (.op none (.i (Int.toNat (first + v10)))) :: oa :: (.trp (.eqc 0 (fl e_i64 (List.set b0 (Int.toNat (first + v10)) x117)))) :: (.op none (.i (Int.toNat (first + ((2 * v10) + 1))))) :: oa :: (.trp (.eqc 0 (fl e_i64 (List.set (List.set b0 (Int.toNat (first + v10)) x117) (Int.toNat (first + ((2 * v10) + 1))) x142)))) :: (cs 2 [])))))))))))))))) [0] (by kernel_rfl) (by kernel_rfl) (aO g147 (aO g149 (k2 (dF c125) (k2 h140 (k2 (ix h141 h143) (k2 (s_i64 h143) (k2 h115 (k2 (ix h116 h118) (k2 (s_i64 h118) (k2 (cCmp_ret c x142 x117 r144 h145) (k2 (not_f (dT c146)) (k2 h140 (k2 h115 (k2 h115 (k2 (ix h116 h118) (k2 (s_i64 h118) (k2 h140 (k2 (ix h141 h143) (k2 (s_i64 h143) (k2 (ix h141 h143) (k2 (rm_i64 h143) (k2 (st_i64 x117 h143) (k2 (iy h116 h147) (k2 (rm_i64 h149) (ok1 (st_i64 x142 h149))))))))))))))))))))))))))
     ·simp at h
   ·obtain ⟨h150, h⟩ := gdS h
    obtain ⟨h151, h⟩ := gdS h
    obtain ⟨x152, h153, h⟩ := bnS h
    obtain ⟨h154, h⟩ := gdS h
    obtain ⟨h155, h⟩ := gdS h
    obtain ⟨x156, h157, h⟩ := bnS h
    obtain ⟨r158, h159, h⟩ := bnS h
    rcases itS h with ⟨c160, h⟩ | ⟨c160, h⟩
    ·obtain ⟨h161, h⟩ := gdS h
     obtain ⟨x162, h163, h⟩ := bnS h
     obtain rfl := oL h
     simp only [sSift_L1_H, List.length_set]
     exact Does.of_viewM 1 400 (f146 ++ (oF :: oF :: oF :: oF :: oF :: oF :: oF :: oF :: oF :: oF :: oF :: oF :: oF :: oF :: oF :: oF :: (.op none (.b false)) :: bf :: (cs 4 (ow :: (.op none (.i (Int.toNat (first + v10)))) :: (vI x152) :: (cs 3 (ow :: (.op none (.i (Int.toNat (first + ((2 * v10) + 1))))) :: (vI x156) :: (.ret none [.any, .any, .any] (jI r158) []) :: oa :: oc :: bf :: (cs 3 (ow :: (cs 3 (ow :: (cs 3 (ow :: (.op none (.i (Int.toNat (first + ((2 * v10) + 1))))) :: (vI x156) :: (cs 3 (ow :: (.op none (.i (Int.toNat (first + v10)))) :: (vI x152) :: (.op none (.i (Int.toNat (first + v10)))) :: oa :: (.trp (.eqc 0 (fl e_i64 (List.set b0 (Int.toNat (first + v10)) x156)))) :: (.op none (.i (Int.toNat (first + ((2 * v10) + 1))))) :: oa :: (.trp (.eqc 0 (fl e_i64 (List.set (List.set b0 (Int.toNat (first + v10)) x156) (Int.toNat (first + ((2 * v10) + 1))) x152)))) :: (cs 2 []))))))))))))))) [0] (by kernel_rfl) (by kernel_rfl) (aO g147 (k2 (dF c114) (k2 (dF c114) (k2 (dF c114) (k2 (dF c114) (k2 (dF c114) (k2 (dF c114) (k2 (dF c114) (k2 (dF c114) (k2 (dF c114) (k2 (dF c114) (k2 (dF c114) (k2 (dF c114) (k2 (dF c114) (k2 (dF c114) (k2 (dF c114) (k2 (dF c114) (k2 (dF c114) (k2 (rfl : false = false) (k2 h150 (k2 (ix h151 h153) (k2 (s_i64 h153) (k2 h154 (k2 (ix h155 h157) (k2 (s_i64 h157) (k2 (cCmp_ret c x152 x156 r158 h159) (k2 (not_f (dT c160)) (k2 h150 (k2 h154 (k2 h154 (k2 (ix h155 h157) (k2 (s_i64 h157) (k2 h150 (k2 (ix h151 h153) (k2 (s_i64 h153) (k2 (ix h151 h153) (k2 (rm_i64 h153) (k2 (st_i64 x156 h153) (k2 (iy h155 h161) (k2 (rm_i64 h163) (ok1 (st_i64 x152 h163))))))))))))))))))))))))))))))))))))))))))
    ·simp at h
 ·obtain ⟨v10, b0⟩ := s
  unfold sSift_L1_step at h
  try dsimp only at h
  obtain ⟨h110, h⟩ := gdS h
  obtain ⟨h111, h⟩ := gdS h
  let f150 : List CH := (oc :: ow :: ow :: (cs 3 [oa]))
  rcases itS h with ⟨c112, h⟩ | ⟨c112, h⟩
  ·obtain rfl := oR h
   exact ⟨Does.of_viewM 1 400 (f150 ++ [.br true]) [0] (by kernel_rfl) (by kernel_rfl) (k2 h110 (k2 h111 (ok1 (dT c112)))), by intro q; cases q⟩
  ·obtain ⟨h113, h⟩ := gdS h
   let f151 : List CH := [.br false, oc, ow, oc, oa, oc]
   have g152 := k2 h110 (k2 h111 (k2 (dF c112) (ok1 h113)))
   rcases itS h with ⟨c114, h⟩ | ⟨c114, h⟩
   ·obtain ⟨h115, h⟩ := gdS h
    obtain ⟨h116, h⟩ := gdS h
    obtain ⟨x117, h118, h⟩ := bnS h
    obtain ⟨h119, h⟩ := gdS h
    obtain ⟨h120, h⟩ := gdS h
    obtain ⟨x121, h122, h⟩ := bnS h
    obtain ⟨r123, h124, h⟩ := bnS h
    let f153 : List CH := [tc, tc, tc, tc, tw, .op (some true) (.i (Int.toNat (first + ((2 * v10) + 1)))), .op (some true) (.v [.int .i64 x117]), tc, tc, tc, tw, tw, .op (some true) (.i (Int.toNat ((first + ((2 * v10) + 1)) + 1))), .op (some true) (.v [.int .i64 x121]), .ret (some true) [.any, .any, .any] (.int .i64 r123) [], ta, .op none (.b true)]
    have g154 := k2 (dT c114) (k2 (dT c114) (k2 (dT c114) (k2 (dT c114) (k2 (dT c114) (k2 h115 (k2 (dT c114) (k2 (ix h116 h118) (k2 (dT c114) (k2 (s_i64 h118) (k2 (dT c114) (k2 (dT c114) (k2 (dT c114) (k2 (dT c114) (k2 h115 (k2 (dT c114) (k2 h119 (k2 (dT c114) (k2 (ix h120 h122) (k2 (dT c114) (k2 (s_i64 h122) (k2 (dT c114) (k2 (cCmp_ret c x117 x121 r123 h124) (k2 (dT c114) (ok1 (dT c114)))))))))))))))))))))))))
    rcases itS h with ⟨c125, h⟩ | ⟨c125, h⟩
    ·obtain ⟨h126, h⟩ := gdS h
     obtain ⟨h127, h⟩ := gdS h
     obtain ⟨x128, h129, h⟩ := bnS h
     obtain ⟨h130, h⟩ := gdS h
     obtain ⟨h131, h⟩ := gdS h
     obtain ⟨x132, h133, h⟩ := bnS h
     obtain ⟨r134, h135, h⟩ := bnS h
     rcases itS h with ⟨c136, h⟩ | ⟨c136, h⟩
     ·obtain ⟨h137, h⟩ := gdS h
      obtain ⟨x138, h139, h⟩ := bnS h
      simp at h
     ·obtain rfl := oR h
      exact ⟨Does.of_viewM 1 400 (f150 ++ (f151 ++ (f153 ++ (bt :: oc :: ow :: (cs 5 (ow :: (.op none (.i (Int.toNat (first + v10)))) :: (vI x128) :: (cs 3 [ow, .op none (.i (Int.toNat (first + (((2 * v10) + 1) + 1)))), vI x132, .ret none [.any, .any, .any] (jI r134) [], oa, oc, .br true]))))))) [0] (by kernel_rfl) (by kernel_rfl) (aO g152 (aO g154 (k2 (dT c125) (k2 h113 (k2 h126 (k2 (ix h127 h129) (k2 (s_i64 h129) (k2 h130 (k2 (ix h131 h133) (k2 (s_i64 h133) (k2 (cCmp_ret c x128 x132 r134 h135) (ok1 (not_t (dF c136)))))))))))))), by intro q; cases q⟩
    ·obtain ⟨h140, h⟩ := gdS h
     obtain ⟨h141, h⟩ := gdS h
     obtain ⟨x142, h143, h⟩ := bnS h
     obtain ⟨r144, h145, h⟩ := bnS h
     rcases itS h with ⟨c146, h⟩ | ⟨c146, h⟩
     ·obtain ⟨h147, h⟩ := gdS h
      obtain ⟨x148, h149, h⟩ := bnS h
      simp at h
     ·obtain rfl := oR h
      exact ⟨Does.of_viewM 1 400 (f150 ++ (f151 ++ (f153 ++ (bf :: (cs 4 (ow :: (.op none (.i (Int.toNat (first + v10)))) :: (vI x142) :: (cs 3 [ow, .op none (.i (Int.toNat (first + ((2 * v10) + 1)))), vI x117, .ret none [.any, .any, .any] (jI r144) [], oa, oc, .br true]))))))) [0] (by kernel_rfl) (by kernel_rfl) (aO g152 (aO g154 (k2 (dF c125) (k2 h140 (k2 (ix h141 h143) (k2 (s_i64 h143) (k2 h115 (k2 (ix h116 h118) (k2 (s_i64 h118) (k2 (cCmp_ret c x142 x117 r144 h145) (ok1 (not_t (dF c146))))))))))))), by intro q; cases q⟩
   ·obtain ⟨h150, h⟩ := gdS h
    obtain ⟨h151, h⟩ := gdS h
    obtain ⟨x152, h153, h⟩ := bnS h
    obtain ⟨h154, h⟩ := gdS h
    obtain ⟨h155, h⟩ := gdS h
    obtain ⟨x156, h157, h⟩ := bnS h
    obtain ⟨r158, h159, h⟩ := bnS h
    rcases itS h with ⟨c160, h⟩ | ⟨c160, h⟩
    ·obtain ⟨h161, h⟩ := gdS h
     obtain ⟨x162, h163, h⟩ := bnS h
     simp at h
    ·obtain rfl := oR h
     exact ⟨Does.of_viewM 1 400 (f150 ++ (f151 ++ (oF :: oF :: oF :: oF :: oF :: oF :: oF :: oF :: oF :: oF :: oF :: oF :: oF :: oF :: oF :: oF :: (.op none (.b false)) :: bf :: (cs 4 (ow :: (.op none (.i (Int.toNat (first + v10)))) :: (vI x152) :: (cs 3 [ow, .op none (.i (Int.toNat (first + ((2 * v10) + 1)))), vI x156, .ret none [.any, .any, .any] (jI r158) [], oa, oc, .br true])))))) [0] (by kernel_rfl) (by kernel_rfl) (aO g152 (k2 (dF c114) (k2 (dF c114) (k2 (dF c114) (k2 (dF c114) (k2 (dF c114) (k2 (dF c114) (k2 (dF c114) (k2 (dF c114) (k2 (dF c114) (k2 (dF c114) (k2 (dF c114) (k2 (dF c114) (k2 (dF c114) (k2 (dF c114) (k2 (dF c114) (k2 (dF c114) (k2 (dF c114) (k2 (rfl : false = false) (k2 h150 (k2 (ix h151 h153) (k2 (s_i64 h153) (k2 h154 (k2 (ix h155 h157) (k2 (s_i64 h157) (k2 (cCmp_ret c x152 x156 r158 h159) (ok1 (not_t (dF c160))))))))))))))))))))))))))))), by intro q; cases q⟩
def sSift (c : TB) (l : (List Int)) (lo : Int) (hi : Int) (first : Int) : Option (List Int) :=
 (lp (sSift_L1_step c hi first) (lo, l)).bind fun qq => match qq with
 | Sum.inl o1 =>
  some o1
 | Sum.inr (o1) =>
  some o1
theorem sSift_ret (c : TB) (l : (List Int)) (lo : Int) (hi : Int) (first : Int) (r : (List Int)) (h : sSift c l lo hi first = some r) : CallsM Tryz.prog G0 1 191 [.vec 0 l.length 1, .int .i64 lo, .int .i64 hi, .int .i64 first, cFn c] [(bV (fl e_i64 l) 3)] (.tup []) [(bV (fl e_i64 r) 3)] := by
 unfold sSift at h
 obtain ⟨qq, hl1, h⟩ := bnS h
 rcases qq with o1 | o1
 ·dsimp only at h
  obtain rfl := oI h
  exact CallsM.of_view 1 400 (cs 2 [.fcut 1 (.exit 0) [] [(bV (fl e_i64 o1) 3)] [0] [(0, .any), (2, .any), (3, .any), (4, .any), (10, .any)] [bS]]) [0] (by kernel_rfl) (by kernel_rfl) (ok1 (sSift_L1_does c hi first (s := (lo, l)) (r := Sum.inl o1) hl1))
 ·dsimp only at h
  obtain rfl := oI h
  exact CallsM.of_view 1 400 (cs 2 [.fcut 1 .ret [] [(bV (fl e_i64 o1) 3)] [0] [(0, .any), (2, .any), (3, .any), (4, .any), (10, .any)] [bS]]) [0] (by kernel_rfl) (by kernel_rfl) (ok1 (sSift_L1_does c hi first (s := (lo, l)) (r := Sum.inr (o1)) hl1))
end
set_option maxHeartbeats 4000000
set_option maxRecDepth 100000
noncomputable section
open Go Go.Proofs
def sHeap_L4_step (c : TB) (a : Int) (b : Int) : (Int × (List Int)) → Option ((Int × (List Int)) ⊕ (List Int))
 | (v11, b0) =>
  if v11 ≥ (0 : Int) then
   (sSift c b0 v11 (b - a) a).bind fun r16 =>
   if r16.length = b0.length then
    if InR .i64 (v11 - 1) then
     some (Sum.inl ((v11 - 1), r16))
    else none
   else none
  else
   some (Sum.inr b0)
def sHeap_L4_H (c : TB) (a : Int) (b : Int) : (Int × (List Int)) → St := fun (s : (Int × (List Int))) => S 60 [(0, .vec 0 s.2.length 1), (3, cFn c), (8, .int .i64 a), (9, .int .i64 0), (10, .int .i64 (b - a)), (11, .int .i64 s.1)] [(bV (fl e_i64 s.2) 3)]
def sHeap_L4_X (c : TB) (a : Int) (b : Int) : (List Int) → AEx := fun o => (.exit 0)
def sHeap_L4_T (c : TB) (a : Int) (b : Int) : (List Int) → List (Nat × AV) := fun o => [(0, .vec 0 o.length 1), (3, cFn c), (8, .int .i64 a), (9, .int .i64 0), (10, .int .i64 (b - a))]
def sHeap_L4_B (c : TB) (a : Int) (b : Int) : (List Int) → List Blk := fun o => [(bV (fl e_i64 o) 3)]
def sHeap_L4_E (c : TB) (a : Int) (b : Int) (q : (List Int)) : St := S 60 (sHeap_L4_T c a b q) (sHeap_L4_B c a b q)
theorem sHeap_L4_does (c : TB) (a : Int) (b : Int) {s : (Int × (List Int))} {r : (List Int)} (h : lp (sHeap_L4_step c a b) s = some r) : Does Tryz.prog G0 1 (.loop (bodyAt Tryz.prog 136 [1, 1, 1, 0, 1, 0, 0])) (sHeap_L4_H c a b s) (sHeap_L4_X c a b r) (sHeap_L4_E c a b r) := by
 refine Does.lp (H := sHeap_L4_H c a b) (X := sHeap_L4_X c a b) (E := sHeap_L4_E c a b) (fun s s2 h => ?_) (fun s r h => ?_) h
 ·obtain ⟨v11, b0⟩ := s
  unfold sHeap_L4_step at h
  try dsimp only at h
  rcases itS h with ⟨c15, h⟩ | ⟨c15, h⟩
  ·obtain ⟨r16, h17, h⟩ := bnS h
   obtain ⟨h18, h⟩ := gdS h
   obtain ⟨h19, h⟩ := gdS h
   obtain rfl := oL h
   exact Does.of_viewM 1 400 (oc :: oa :: bt :: (cs 6 [.spec (fspec 1 [0] [.vec 0 b0.length 1, jI v11, jI (b - a), jI a, cFn c] [(bV (fl e_i64 b0) 3)] (.tup []) [(bV (fl e_i64 r16) 3)]), .tr (.eqt (.t 0) (.vec 0 r16.length 1)), oc, ow, oc])) [0] (by kernel_rfl) (by kernel_rfl) (k2 (dT c15) (k2 ((fspec_ok _ (sSift_ret c b0 v11 (b - a) a r16 h17)) : SpecOk Tryz.prog G0 191 (fspec 1 [0] [.vec 0 b0.length 1, jI v11, jI (b - a), jI a, cFn c] [(bV (fl e_i64 b0) 3)] (.tup []) [(bV (fl e_i64 r16) 3)])) (k2 (⟨rfl, rfl, trivial⟩ : (([.vec 0 b0.length 1, jI v11, jI (b - a), jI a, cFn c] : List AV) = [.vec 0 b0.length 1, jI v11, jI (b - a), jI a, cFn c]) ∧ (some (Ob.blk (bV (fl e_i64 b0) 3)) = some (Ob.blk (bV (fl e_i64 b0) 3))) ∧ True) (k2 ((congrArg (fun q => AV.vec 0 q 1) h18.symm) : (.vec 0 b0.length 1 : AV) = .vec 0 r16.length 1) (ok1 h19)))))
  ·simp at h
 ·obtain ⟨v11, b0⟩ := s
  unfold sHeap_L4_step at h
  try dsimp only at h
  rcases itS h with ⟨c15, h⟩ | ⟨c15, h⟩
  ·obtain ⟨r16, h17, h⟩ := bnS h
   obtain ⟨h18, h⟩ := gdS h
   obtain ⟨h19, h⟩ := gdS h
   simp at h
  ·obtain rfl := oR h
   exact ⟨Does.of_viewM 1 400 [oc, oa, .br false] [0] (by kernel_rfl) (by kernel_rfl) (ok1 (dF c15)), by intro q; cases q⟩
def sHeap_L20_step (c : TB) (a : Int) : (Int × (List Int)) → Option ((Int × (List Int)) ⊕ (List Int))
 | (v12, b0) =>
  if v12 ≥ (0 : Int) then
   if InR .i64 (a + v12) then
    if (0 : Int) ≤ (a + v12) then
     (b0[(Int.toNat (a + v12))]?).bind fun x54 =>
     if (0 : Int) ≤ a then
      (b0[a.toNat]?).bind fun x57 =>
      if (Int.toNat (a + v12)) < b0.length then
       ((List.set b0 a.toNat x54)[(Int.toNat (a + v12))]?).bind fun x60 =>
       (sSift c (List.set (List.set b0 a.toNat x54) (Int.toNat (a + v12)) x57) 0 v12 a).bind fun r62 =>
       if r62.length = b0.length then
        if InR .i64 (v12 - 1) then
         some (Sum.inl ((v12 - 1), r62))
        else none
       else none
      else none
     else none
    else none
   else none
  else
   some (Sum.inr b0)
def sHeap_L20_H (c : TB) (a : Int) : (Int × (List Int)) → St := fun (s : (Int × (List Int))) => S 60 [(0, .vec 0 s.2.length 1), (3, cFn c), (8, .int .i64 a), (9, .int .i64 0), (12, .int .i64 s.1)] [(bV (fl e_i64 s.2) 3)]
def sHeap_L20_X (c : TB) (a : Int) : (List Int) → AEx := fun o => (.exit 2)
def sHeap_L20_T (c : TB) (a : Int) : (List Int) → List (Nat × AV) := fun o => []
def sHeap_L20_B (c : TB) (a : Int) : (List Int) → List Blk := fun o => [(bV (fl e_i64 o) 3)]
def sHeap_L20_E (c : TB) (a : Int) (q : (List Int)) : St := S 60 (sHeap_L20_T c a q) (sHeap_L20_B c a q)
theorem sHeap_L20_does (c : TB) (a : Int) {s : (Int × (List Int))} {r : (List Int)} (h : lp (sHeap_L20_step c a) s = some r) : Does Tryz.prog G0 1 (.loop (bodyAt Tryz.prog 136 [1, 1, 1, 1, 1, 0, 0])) (sHeap_L20_H c a s) (sHeap_L20_X c a r) (sHeap_L20_E c a r) := by
 refine Does.lp (H := sHeap_L20_H c a) (X := sHeap_L20_X c a) (E := sHeap_L20_E c a) (fun s s2 h => ?_) (fun s r h => ?_) h
 ·obtain ⟨v12, b0⟩ := s
  unfold sHeap_L20_step at h
  try dsimp only at h
  rcases itS h with ⟨c51, h⟩ | ⟨c51, h⟩
  ·obtain ⟨h52, h⟩ := gdS h
   obtain ⟨h53, h⟩ := gdS h
   obtain ⟨x54, h55, h⟩ := bnS h
   obtain ⟨h56, h⟩ := gdS h
   obtain ⟨x57, h58, h⟩ := bnS h
   obtain ⟨h59, h⟩ := gdS h
   obtain ⟨x60, h61, h⟩ := bnS h
   obtain ⟨r62, h63, h⟩ := bnS h
   obtain ⟨h64, h⟩ := gdS h
   obtain ⟨h65, h⟩ := gdS h
   obtain rfl := oL h
   exact Does.of_viewM 1 400 (oc :: oa :: bt :: (cs 5 (ow :: (cs 3 (ow :: (.op none (.i (Int.toNat (a + v12)))) :: (vI x54) :: (cs 2 ((.op none (.i a.toNat)) :: (vI x57) :: (.op none (.i a.toNat)) :: oa :: (.trp (.eqc 0 (fl e_i64 (List.set b0 a.toNat x54)))) :: (.op none (.i (Int.toNat (a + v12)))) :: oa :: (.trp (.eqc 0 (fl e_i64 (List.set (List.set b0 a.toNat x54) (Int.toNat (a + v12)) x57)))) :: (cs 6 [.spec (fspec 1 [0] [.vec 0 ((List.set (List.set b0 a.toNat x54) (Int.toNat (a + v12)) x57).length) 1, jI 0, jI v12, jI a, cFn c] [(bV (fl e_i64 (List.set (List.set b0 a.toNat x54) (Int.toNat (a + v12)) x57)) 3)] (.tup []) [(bV (fl e_i64 r62) 3)]), .tr (.eqt (.t 0) (.vec 0 r62.length 1)), oc, ow, oc])))))))) [0] (by kernel_rfl) (by kernel_rfl) (k2 (dT c51) (k2 h52 (k2 h52 (k2 (ix h53 h55) (k2 (s_i64 h55) (k2 (ix h56 h58) (k2 (s_i64 h58) (k2 (ix h56 h58) (k2 (rm_i64 h58) (k2 (st_i64 x54 h58) (k2 (iy h53 h59) (k2 (rm_i64 h61) (k2 (st_i64 x57 h61) (k2 ((fspec_ok _ (sSift_ret c (List.set (List.set b0 a.toNat x54) (Int.toNat (a + v12)) x57) 0 v12 a r62 h63)) : SpecOk Tryz.prog G0 191 (fspec 1 [0] [.vec 0 ((List.set (List.set b0 a.toNat x54) (Int.toNat (a + v12)) x57).length) 1, jI 0, jI v12, jI a, cFn c] [(bV (fl e_i64 (List.set (List.set b0 a.toNat x54) (Int.toNat (a + v12)) x57)) 3)] (.tup []) [(bV (fl e_i64 r62) 3)])) (k2 (⟨(by simp only [List.length_set]), rfl, trivial⟩ : (([.vec 0 b0.length 1, jI 0, jI v12, jI a, cFn c] : List AV) = [.vec 0 ((List.set (List.set b0 a.toNat x54) (Int.toNat (a + v12)) x57).length) 1, jI 0, jI v12, jI a, cFn c]) ∧ (some (Ob.blk (bV (fl e_i64 (List.set (List.set b0 a.toNat x54) (Int.toNat (a + v12)) x57)) 3)) = some (Ob.blk (bV (fl e_i64 (List.set (List.set b0 a.toNat x54) (Int.toNat (a + v12)) x57)) 3))) ∧ True) (k2 ((congrArg (fun q => AV.vec 0 q 1) h64.symm) : (.vec 0 b0.length 1 : AV) = .vec 0 r62.length 1) (ok1 h65)))))))))))))))))
  ·simp at h
 ·obtain ⟨v12, b0⟩ := s
  unfold sHeap_L20_step at h
  try dsimp only at h
  rcases itS h with ⟨c51, h⟩ | ⟨c51, h⟩
  ·obtain ⟨h52, h⟩ := gdS h
   obtain ⟨h53, h⟩ := gdS h
   obtain ⟨x54, h55, h⟩ := bnS h
   obtain ⟨h56, h⟩ := gdS h
   obtain ⟨x57, h58, h⟩ := bnS h
   obtain ⟨h59, h⟩ := gdS h
   obtain ⟨x60, h61, h⟩ := bnS h
   obtain ⟨r62, h63, h⟩ := bnS h
   obtain ⟨h64, h⟩ := gdS h
   obtain ⟨h65, h⟩ := gdS h
   simp at h
  ·obtain rfl := oR h
   exact ⟨Does.of_viewM 1 400 [oc, oa, .br false] [0] (by kernel_rfl) (by kernel_rfl) (ok1 (dF c51)), by intro q; cases q⟩
def sHeap (c : TB) (l : (List Int)) (a : Int) (b : Int) : Option (List Int) :=
 if InR .i64 (b - a) then
  if InR .i64 ((b - a) - 1) then
   if InR .i64 (tdiv ((b - a) - 1) 2) then
    (lp (sHeap_L4_step c a b) ((tdiv ((b - a) - 1) 2), l)).bind fun o4 =>
    (lp (sHeap_L20_step c a) (((b - a) - 1), o4)).bind fun o20 =>
    some o20
   else none
  else none
 else none
theorem sHeap_ret (c : TB) (l : (List Int)) (a : Int) (b : Int) (r : (List Int)) (h : sHeap c l a b = some r) : CallsM Tryz.prog G0 1 136 [.vec 0 l.length 1, .int .i64 a, .int .i64 b, cFn c] [(bV (fl e_i64 l) 3)] (.tup []) [(bV (fl e_i64 r) 3)] := by
 unfold sHeap at h
 obtain ⟨h1, h⟩ := gdS h
 obtain ⟨h2, h⟩ := gdS h
 obtain ⟨h3, h⟩ := gdS h
 obtain ⟨o4, hl4, h⟩ := bnS h
 obtain ⟨o20, hl20, h⟩ := bnS h
 obtain rfl := oI h
 exact CallsM.of_view 1 400 (cs 5 (ow :: (cs 2 [ow, ow, oc, .fcut 1 (.exit 0) (sHeap_L4_T c a b o4) [(bV (fl e_i64 o4) 3)] [0] [(0, .any), (3, .any), (8, .any), (9, .any), (10, .any), (11, .any)] [bS], oc, ow, oc, .fcut 1 (.exit 2) [] (sHeap_L20_B c a o20) [0] [(0, .any), (3, .any), (8, .any), (9, .any), (12, .any)] [bS]]))) [0] (by kernel_rfl) (by kernel_rfl) (k2 h1 (k2 h2 (k2 ((by decide) : 2 ≠ (0 : Int)) (k2 h3 (k2 (sHeap_L4_does c a b (s := ((tdiv ((b - a) - 1) 2), l)) (r := o4) hl4) (k2 h2 (ok1 (sHeap_L20_does c a (s := (((b - a) - 1), o4)) (r := o20) hl20))))))))
def sReverse_L2_step  : (Int × Int × (List Int)) → Option ((Int × Int × (List Int)) ⊕ (List Int))
 | (v8, v9, b0) =>
  if v8 < v9 then
   if (0 : Int) ≤ v9 then
    (b0[v9.toNat]?).bind fun x29 =>
    if (0 : Int) ≤ v8 then
     (b0[v8.toNat]?).bind fun x32 =>
     if v9.toNat < b0.length then
      ((List.set b0 v8.toNat x29)[v9.toNat]?).bind fun x35 =>
      if InR .i64 (v8 + 1) then
       if InR .i64 (v9 - 1) then
        some (Sum.inl ((v8 + 1), (v9 - 1), (List.set (List.set b0 v8.toNat x29) v9.toNat x32)))
       else none
      else none
     else none
    else none
   else none
  else
   some (Sum.inr b0)
def sReverse_L2_H  : (Int × Int × (List Int)) → St := fun (s : (Int × Int × (List Int))) => S 34 [(0, .vec 0 s.2.2.length 1), (8, .int .i64 s.1), (9, .int .i64 s.2.1)] [(bV (fl e_i64 s.2.2) 3)]
def sReverse_L2_X  : (List Int) → AEx := fun o => (.exit 0)
def sReverse_L2_T  : (List Int) → List (Nat × AV) := fun o => []
def sReverse_L2_B  : (List Int) → List Blk := fun o => [(bV (fl e_i64 o) 3)]
def sReverse_L2_E  (q : (List Int)) : St := S 34 (sReverse_L2_T  q) (sReverse_L2_B  q)
theorem sReverse_L2_does  {s : (Int × Int × (List Int))} {r : (List Int)} (h : lp (sReverse_L2_step ) s = some r) : Does Tryz.prog G0 1 (.loop (bodyAt Tryz.prog 139 [1, 1, 0, 0])) (sReverse_L2_H  s) (sReverse_L2_X  r) (sReverse_L2_E  r) := by
 refine Does.lp (H := sReverse_L2_H ) (X := sReverse_L2_X ) (E := sReverse_L2_E ) (fun s s2 h => ?_) (fun s r h => ?_) h
 ·obtain ⟨v8, v9, b0⟩ := s
  unfold sReverse_L2_step at h
  try dsimp only at h
  rcases itS h with ⟨c27, h⟩ | ⟨c27, h⟩
  ·obtain ⟨h28, h⟩ := gdS h
   obtain ⟨x29, h30, h⟩ := bnS h
   obtain ⟨h31, h⟩ := gdS h
   obtain ⟨x32, h33, h⟩ := bnS h
   obtain ⟨h34, h⟩ := gdS h
   obtain ⟨x35, h36, h⟩ := bnS h
   obtain ⟨h37, h⟩ := gdS h
   obtain ⟨h38, h⟩ := gdS h
   obtain rfl := oL h
   simp only [sReverse_L2_H, List.length_set]
   exact Does.of_viewM 1 400 (cs 2 (oa :: bt :: (cs 6 ((.op none (.i v9.toNat)) :: (vI x29) :: (cs 2 ((.op none (.i v8.toNat)) :: (vI x32) :: (.op none (.i v8.toNat)) :: oa :: (.trp (.eqc 0 (fl e_i64 (List.set b0 v8.toNat x29)))) :: (.op none (.i v9.toNat)) :: oa :: (.trp (.eqc 0 (fl e_i64 (List.set (List.set b0 v8.toNat x29) v9.toNat x32)))) :: oc :: ow :: (cs 2 [ow, oc]))))))) [0] (by kernel_rfl) (by kernel_rfl) (k2 (dT c27) (k2 (ix h28 h30) (k2 (s_i64 h30) (k2 (ix h31 h33) (k2 (s_i64 h33) (k2 (ix h31 h33) (k2 (rm_i64 h33) (k2 (st_i64 x29 h33) (k2 (iy h28 h34) (k2 (rm_i64 h36) (k2 (st_i64 x32 h36) (k2 h37 (ok1 h38)))))))))))))
  ·simp at h
 ·obtain ⟨v8, v9, b0⟩ := s
  unfold sReverse_L2_step at h
  try dsimp only at h
  rcases itS h with ⟨c27, h⟩ | ⟨c27, h⟩
  ·obtain ⟨h28, h⟩ := gdS h
   obtain ⟨x29, h30, h⟩ := bnS h
   obtain ⟨h31, h⟩ := gdS h
   obtain ⟨x32, h33, h⟩ := bnS h
   obtain ⟨h34, h⟩ := gdS h
   obtain ⟨x35, h36, h⟩ := bnS h
   obtain ⟨h37, h⟩ := gdS h
   obtain ⟨h38, h⟩ := gdS h
   simp at h
  ·obtain rfl := oR h
   exact ⟨Does.of_viewM 1 400 (cs 2 [oa, .br false]) [0] (by kernel_rfl) (by kernel_rfl) (ok1 (dF c27)), by intro q; cases q⟩
def sReverse (c : TB) (l : (List Int)) (a : Int) (b : Int) : Option (List Int) :=
 if InR .i64 (b - 1) then
  (lp (sReverse_L2_step) (a, (b - 1), l)).bind fun o2 =>
  some o2
 else none
theorem sReverse_ret (c : TB) (l : (List Int)) (a : Int) (b : Int) (r : (List Int)) (h : sReverse c l a b = some r) : CallsM Tryz.prog G0 1 139 [.vec 0 l.length 1, .int .i64 a, .int .i64 b, cFn c] [(bV (fl e_i64 l) 3)] (.tup []) [(bV (fl e_i64 r) 3)] := by
 unfold sReverse at h
 obtain ⟨h1, h⟩ := gdS h
 obtain ⟨o2, hl2, h⟩ := bnS h
 obtain rfl := oI h
 exact CallsM.of_view 1 400 (cs 3 [ow, oc, .fcut 1 (.exit 0) [] (sReverse_L2_B o2) [0] [(0, .any), (8, .any), (9, .any)] [bS]]) [0] (by kernel_rfl) (by kernel_rfl) (k2 h1 (ok1 (sReverse_L2_does (s := (a, (b - 1), l)) (r := o2) hl2)))
def sBreak_L10_step (a : Int) (b : Int) (r4 : Int) : (Int × (List Int) × Int) → Option ((Int × (List Int) × Int) ⊕ ((List Int) × Int))
 | (v11, b0, w1_0) =>
  if InR .i64 (tdiv (b - a) 4) then
   if InR .i64 ((tdiv (b - a) 4) * 2) then
    if InR .i64 (a + ((tdiv (b - a) 4) * 2)) then
     if InR .i64 ((a + ((tdiv (b - a) 4) * 2)) + 1) then
      if v11 ≤ ((a + ((tdiv (b - a) 4) * 2)) + 1) then
       (some (IntKind.wrap .u64 (w1_0 * 2 ^ (min (Int.toNat 13) (IntKind.bits .u64))))).bind fun y98 =>
       (some (IntKind.wrap .u64 ((BitVec.ofInt (IntKind.bits .u64) w1_0 ^^^ BitVec.ofInt (IntKind.bits .u64) y98).toNat : Int))).bind fun y100 =>
       (some (IntKind.wrap .u64 ((BitVec.ofInt (IntKind.bits .u64) y100 ^^^ BitVec.ofInt (IntKind.bits .u64) (Int.fdiv y100 (2 ^ (min (Int.toNat 7) (IntKind.bits .u64))))).toNat : Int))).bind fun y102 =>
       (some (IntKind.wrap .u64 (y102 * 2 ^ (min (Int.toNat 17) (IntKind.bits .u64))))).bind fun y104 =>
       (some (IntKind.wrap .u64 ((BitVec.ofInt (IntKind.bits .u64) y102 ^^^ BitVec.ofInt (IntKind.bits .u64) y104).toNat : Int))).bind fun y106 =>
       if InR .u64 (r4 - 1) then
        (some (IntKind.wrap .u64 ((BitVec.ofInt (IntKind.bits .u64) y106 &&& BitVec.ofInt (IntKind.bits .u64) (r4 - 1)).toNat : Int))).bind fun y109 =>
        if InR .i64 (y109) then
         if y109 ≥ (b - a) then
          if InR .i64 (y109 - (b - a)) then
           if InR .i64 (a + (y109 - (b - a))) then
            if (0 : Int) ≤ (a + (y109 - (b - a))) then
             (b0[(Int.toNat (a + (y109 - (b - a))))]?).bind fun x116 =>
             if (0 : Int) ≤ v11 then
              (b0[v11.toNat]?).bind fun x119 =>
              if (Int.toNat (a + (y109 - (b - a)))) < b0.length then
               ((List.set b0 v11.toNat x116)[(Int.toNat (a + (y109 - (b - a))))]?).bind fun x122 =>
               if InR .i64 (v11 + 1) then
                some (Sum.inl ((v11 + 1), (List.set (List.set b0 v11.toNat x116) (Int.toNat (a + (y109 - (b - a)))) x119), y106))
               else none
              else none
             else none
            else none
           else none
          else none
         else
          if InR .i64 (a + y109) then
           if (0 : Int) ≤ (a + y109) then
            (b0[(Int.toNat (a + y109))]?).bind fun x127 =>
            if (0 : Int) ≤ v11 then
             (b0[v11.toNat]?).bind fun x130 =>
             if (Int.toNat (a + y109)) < b0.length then
              ((List.set b0 v11.toNat x127)[(Int.toNat (a + y109))]?).bind fun x133 =>
              if InR .i64 (v11 + 1) then
               some (Sum.inl ((v11 + 1), (List.set (List.set b0 v11.toNat x127) (Int.toNat (a + y109)) x130), y106))
              else none
             else none
            else none
           else none
          else none
        else none
       else none
      else
       some (Sum.inr (b0, w1_0))
     else none
    else none
   else none
  else none
def sBreak_L10_H (a : Int) (b : Int) (r4 : Int) : (Int × (List Int) × Int) → St := fun (s : (Int × (List Int) × Int)) => S 67 [(0, .vec 0 s.2.1.length 1), (1, .int .i64 a), (8, .int .i64 (b - a)), (9, .ptr 1 0), (10, .int .u64 r4), (11, .int .i64 s.1)] [(bV (fl e_i64 s.2.1) 3), (bT [.int .u64 s.2.2] 284)]
def sBreak_L10_X (a : Int) (b : Int) (r4 : Int) : ((List Int) × Int) → AEx := fun o => (.exit 0)
def sBreak_L10_T (a : Int) (b : Int) (r4 : Int) : ((List Int) × Int) → List (Nat × AV) := fun o => []
def sBreak_L10_B (a : Int) (b : Int) (r4 : Int) : ((List Int) × Int) → List Blk := fun o => [(bV (fl e_i64 o.1) 3), (bT [.int .u64 o.2] 284)]
def sBreak_L10_E (a : Int) (b : Int) (r4 : Int) (q : ((List Int) × Int)) : St := S 67 (sBreak_L10_T a b r4 q) (sBreak_L10_B a b r4 q)
theorem sBreak_L10_does (a : Int) (b : Int) (r4 : Int) {s : (Int × (List Int) × Int)} {r : ((List Int) × Int)} (h : lp (sBreak_L10_step a b r4) s = some r) : Does Tryz.prog G0 2 (.loop (bodyAt Tryz.prog 137 [1, 1, 0, 1, 1, 1, 0, 0])) (sBreak_L10_H a b r4 s) (sBreak_L10_X a b r4 r) (sBreak_L10_E a b r4 r) := by
 refine Does.lp (H := sBreak_L10_H a b r4) (X := sBreak_L10_X a b r4) (E := sBreak_L10_E a b r4) (fun s s2 h => ?_) (fun s r h => ?_) h
 ·obtain ⟨v11, b0, w1_0⟩ := s
  unfold sBreak_L10_step at h
  try dsimp only at h
  obtain ⟨h93, h⟩ := gdS h
  obtain ⟨h94, h⟩ := gdS h
  obtain ⟨h95, h⟩ := gdS h
  obtain ⟨h96, h⟩ := gdS h
  rcases itS h with ⟨c97, h⟩ | ⟨c97, h⟩
  ·obtain ⟨y98, h99, h⟩ := bnS h
   obtain ⟨y100, h101, h⟩ := bnS h
   obtain ⟨y102, h103, h⟩ := bnS h
   obtain ⟨y104, h105, h⟩ := bnS h
   obtain ⟨y106, h107, h⟩ := bnS h
   obtain ⟨h108, h⟩ := gdS h
   obtain ⟨y109, h110, h⟩ := bnS h
   obtain ⟨h111, h⟩ := gdS h
   let f155 : List CH := (cs 3 (ow :: ow :: ow :: ow :: oa :: bt :: (cs 8 (oa :: (.trp (.eqt (.t 9) (.int .u64 y98))) :: oa :: (.trp (.eqt (.t 10) (.int .u64 y100))) :: (cs 8 (oa :: oa :: (.trp (.eqt (.t 19) (.int .u64 y102))) :: (cs 8 (oa :: (.trp (.eqt (.t 27) (.int .u64 y104))) :: oa :: (.trp (.eqt (.t 28) (.int .u64 y106))) :: (cs 7 (ow :: oa :: (.tr (.eqt (.t 41) (.int .u64 y109))) :: ow :: (cs 3 [oa])))))))))))
   have g156 := k2 ((by decide) : 4 ≠ (0 : Int)) (k2 h93 (k2 h94 (k2 h95 (k2 h96 (k2 (dT c97) (k2 ((by decide) : (0 : Int) ≤ 13) (k2 ((congrArg _ (Option.some.inj h99)) : (.int .u64 (IntKind.wrap .u64 (w1_0 * 2 ^ (min (Int.toNat 13) (IntKind.bits .u64)))) : AV) = .int .u64 y98) (k2 ((congrArg _ (Option.some.inj h101)) : (.int .u64 (IntKind.wrap .u64 ((BitVec.ofInt (IntKind.bits .u64) w1_0 ^^^ BitVec.ofInt (IntKind.bits .u64) y98).toNat : Int)) : AV) = .int .u64 y100) (k2 ((by decide) : (0 : Int) ≤ 7) (k2 ((congrArg _ (Option.some.inj h103)) : (.int .u64 (IntKind.wrap .u64 ((BitVec.ofInt (IntKind.bits .u64) y100 ^^^ BitVec.ofInt (IntKind.bits .u64) (Int.fdiv y100 (2 ^ (min (Int.toNat 7) (IntKind.bits .u64))))).toNat : Int)) : AV) = .int .u64 y102) (k2 ((by decide) : (0 : Int) ≤ 17) (k2 ((congrArg _ (Option.some.inj h105)) : (.int .u64 (IntKind.wrap .u64 (y102 * 2 ^ (min (Int.toNat 17) (IntKind.bits .u64)))) : AV) = .int .u64 y104) (k2 ((congrArg _ (Option.some.inj h107)) : (.int .u64 (IntKind.wrap .u64 ((BitVec.ofInt (IntKind.bits .u64) y102 ^^^ BitVec.ofInt (IntKind.bits .u64) y104).toNat : Int)) : AV) = .int .u64 y106) (k2 h108 (k2 ((congrArg _ (Option.some.inj h110)) : (.int .u64 (IntKind.wrap .u64 ((BitVec.ofInt (IntKind.bits .u64) y106 &&& BitVec.ofInt (IntKind.bits .u64) (r4 - 1)).toNat : Int)) : AV) = .int .u64 y109) (ok1 h111))))))))))))))))
   rcases itS h with ⟨c112, h⟩ | ⟨c112, h⟩
   ·obtain ⟨h113, h⟩ := gdS h
    obtain ⟨h114, h⟩ := gdS h
    obtain ⟨h115, h⟩ := gdS h
    obtain ⟨x116, h117, h⟩ := bnS h
    obtain ⟨h118, h⟩ := gdS h
    obtain ⟨x119, h120, h⟩ := bnS h
    obtain ⟨h121, h⟩ := gdS h
    obtain ⟨x122, h123, h⟩ := bnS h
    obtain ⟨h124, h⟩ := gdS h
    obtain rfl := oL h
    simp only [sBreak_L10_H, List.length_set]
    exact Does.of_viewM 2 400 (f155 ++ (bt :: (cs 2 (ow :: (cs 6 (ow :: (cs 3 (ow :: (.op none (.i (Int.toNat (a + (y109 - (b - a)))))) :: (vI x116) :: (cs 2 [.op none (.i v11.toNat), vI x119, .op none (.i v11.toNat), oa, .trp (.eqc 0 (fl e_i64 (List.set b0 v11.toNat x116))), .op none (.i (Int.toNat (a + (y109 - (b - a))))), oa, .trp (.eqc 0 (fl e_i64 (List.set (List.set b0 v11.toNat x116) (Int.toNat (a + (y109 - (b - a)))) x119))), oc, ow, oc]))))))))) [0, 1] (by kernel_rfl) (by kernel_rfl) (aO g156 (k2 (dT c112) (k2 h113 (k2 h114 (k2 h114 (k2 (ix h115 h117) (k2 (s_i64 h117) (k2 (ix h118 h120) (k2 (s_i64 h120) (k2 (ix h118 h120) (k2 (rm_i64 h120) (k2 (st_i64 x116 h120) (k2 (iy h115 h121) (k2 (rm_i64 h123) (k2 (st_i64 x119 h123) (ok1 h124))))))))))))))))
   ·obtain ⟨h125, h⟩ := gdS h
    obtain ⟨h126, h⟩ := gdS h
    obtain ⟨x127, h128, h⟩ := bnS h
    obtain ⟨h129, h⟩ := gdS h
    obtain ⟨x130, h131, h⟩ := bnS h
    obtain ⟨h132, h⟩ := gdS h
    obtain ⟨x133, h134, h⟩ := bnS h
    obtain ⟨h135, h⟩ := gdS h
    obtain rfl := oL h
    simp only [sBreak_L10_H, List.length_set]
    exact Does.of_viewM 2 400 (f155 ++ (bf :: (cs 5 (ow :: (cs 3 (ow :: (.op none (.i (Int.toNat (a + y109)))) :: (vI x127) :: (cs 2 [.op none (.i v11.toNat), vI x130, .op none (.i v11.toNat), oa, .trp (.eqc 0 (fl e_i64 (List.set b0 v11.toNat x127))), .op none (.i (Int.toNat (a + y109))), oa, .trp (.eqc 0 (fl e_i64 (List.set (List.set b0 v11.toNat x127) (Int.toNat (a + y109)) x130))), oc, ow, oc]))))))) [0, 1] (by kernel_rfl) (by kernel_rfl) (aO g156 (k2 (dF c112) (k2 h125 (k2 h125 (k2 (ix h126 h128) (k2 (s_i64 h128) (k2 (ix h129 h131) (k2 (s_i64 h131) (k2 (ix h129 h131) (k2 (rm_i64 h131) (k2 (st_i64 x127 h131) (k2 (iy h126 h132) (k2 (rm_i64 h134) (k2 (st_i64 x130 h134) (ok1 h135)))))))))))))))
  ·simp at h
 ·obtain ⟨v11, b0, w1_0⟩ := s
  unfold sBreak_L10_step at h
  try dsimp only at h
  obtain ⟨h93, h⟩ := gdS h
  obtain ⟨h94, h⟩ := gdS h
  obtain ⟨h95, h⟩ := gdS h
  obtain ⟨h96, h⟩ := gdS h
  rcases itS h with ⟨c97, h⟩ | ⟨c97, h⟩
  ·obtain ⟨y98, h99, h⟩ := bnS h
   obtain ⟨y100, h101, h⟩ := bnS h
   obtain ⟨y102, h103, h⟩ := bnS h
   obtain ⟨y104, h105, h⟩ := bnS h
   obtain ⟨y106, h107, h⟩ := bnS h
   obtain ⟨h108, h⟩ := gdS h
   obtain ⟨y109, h110, h⟩ := bnS h
   obtain ⟨h111, h⟩ := gdS h
   rcases itS h with ⟨c112, h⟩ | ⟨c112, h⟩
   ·obtain ⟨h113, h⟩ := gdS h
    obtain ⟨h114, h⟩ := gdS h
    obtain ⟨h115, h⟩ := gdS h
    obtain ⟨x116, h117, h⟩ := bnS h
    obtain ⟨h118, h⟩ := gdS h
    obtain ⟨x119, h120, h⟩ := bnS h
    obtain ⟨h121, h⟩ := gdS h
    obtain ⟨x122, h123, h⟩ := bnS h
    obtain ⟨h124, h⟩ := gdS h
    simp at h
   ·obtain ⟨h125, h⟩ := gdS h
    obtain ⟨h126, h⟩ := gdS h
    obtain ⟨x127, h128, h⟩ := bnS h
    obtain ⟨h129, h⟩ := gdS h
    obtain ⟨x130, h131, h⟩ := bnS h
    obtain ⟨h132, h⟩ := gdS h
    obtain ⟨x133, h134, h⟩ := bnS h
    obtain ⟨h135, h⟩ := gdS h
    simp at h
  ·obtain rfl := oR h
   exact ⟨Does.of_viewM 2 400 (cs 3 [ow, ow, ow, ow, oa, .br false]) [0, 1] (by kernel_rfl) (by kernel_rfl) (k2 ((by decide) : 4 ≠ (0 : Int)) (k2 h93 (k2 h94 (k2 h95 (k2 h96 (ok1 (dF c97))))))), by intro q; cases q⟩
def sBreak (c : TB) (l : (List Int)) (a : Int) (b : Int) : Option (List Int) :=
 if InR .i64 (b - a) then
  if (b - a) ≥ (8 : Int) then
   if InR .u64 (b - a) then
    (slices_nextPowerOfTwo (b - a)).bind fun r4 =>
    if InR .i64 (tdiv (b - a) 4) then
     if InR .i64 ((tdiv (b - a) 4) * 2) then
      if InR .i64 (a + ((tdiv (b - a) 4) * 2)) then
       if InR .i64 ((a + ((tdiv (b - a) 4) * 2)) - 1) then
        (lp (sBreak_L10_step a b r4) (((a + ((tdiv (b - a) 4) * 2)) - 1), l, (b - a))).bind fun o10 =>
        some o10.1
       else none
      else none
     else none
    else none
   else none
  else
   some l
 else none
theorem sBreak_ret (c : TB) (l : (List Int)) (a : Int) (b : Int) (r : (List Int)) (h : sBreak c l a b = some r) : CallsM Tryz.prog G0 1 137 [.vec 0 l.length 1, .int .i64 a, .int .i64 b, cFn c] [(bV (fl e_i64 l) 3)] (.tup []) [(bV (fl e_i64 r) 3)] := by
 unfold sBreak at h
 obtain ⟨h1, h⟩ := gdS h
 let f157 : List CH := (cs 2 (ow :: (cs 2 [oa])))
 rcases itS h with ⟨c2, h⟩ | ⟨c2, h⟩
 ·obtain ⟨h3, h⟩ := gdS h
  obtain ⟨r4, h5, h⟩ := bnS h
  obtain ⟨h6, h⟩ := gdS h
  obtain ⟨h7, h⟩ := gdS h
  obtain ⟨h8, h⟩ := gdS h
  obtain ⟨h9, h⟩ := gdS h
  obtain ⟨o10, hl10, h⟩ := bnS h
  obtain rfl := oI h
  exact CallsM.of_view 1 400 (f157 ++ (bt :: oc :: ow :: (cs 3 ((.ret none [.any] (.int .u64 r4) []) :: (cs 3 [ow, ow, ow, ow, oc, .fcut 2 (.exit 0) [] (sBreak_L10_B a b r4 o10) [0, 1] [(0, .any), (1, .any), (8, .any), (9, .any), (10, .any), (11, .any)] [bS, bS]]))))) [0] (by kernel_rfl) (by kernel_rfl) (k2 h1 (k2 (dT c2) (k2 h3 (k2 (slices_nextPowerOfTwo_ret (b - a) r4 h5) (k2 ((by decide) : 4 ≠ (0 : Int)) (k2 h6 (k2 h7 (k2 h8 (k2 h9 (ok1 (sBreak_L10_does a b r4 (s := (((a + ((tdiv (b - a) 4) * 2)) - 1), l, (b - a))) (r := o10) hl10)))))))))))
 ·obtain rfl := oI h
  exact CallsM.of_view 1 400 (f157 ++ [.br false]) [0] (by kernel_rfl) (by kernel_rfl) (k2 h1 (ok1 (dF c2)))
def sChoose (c : TB) (l : (List Int)) (a : Int) (b : Int) : Option (Int × Int) :=
 if InR .i64 (b - a) then
  if InR .i64 (tdiv (b - a) 4) then
   if InR .i64 ((tdiv (b - a) 4) * 1) then
    if InR .i64 (a + ((tdiv (b - a) 4) * 1)) then
     if InR .i64 ((tdiv (b - a) 4) * 2) then
      if InR .i64 (a + ((tdiv (b - a) 4) * 2)) then
       if InR .i64 ((tdiv (b - a) 4) * 3) then
        if InR .i64 (a + ((tdiv (b - a) 4) * 3)) then
         if (b - a) ≥ (8 : Int) then
          if (b - a) ≥ (50 : Int) then
           none
          else
           (sMedian c l (a + ((tdiv (b - a) 4) * 1)) (a + ((tdiv (b - a) 4) * 2)) (a + ((tdiv (b - a) 4) * 3)) 0).bind fun r11 =>
           if r11.1 = (0 : Int) then
            some (r11.2, 1)
           else
            if r11.1 = (12 : Int) then
             some (r11.2, 2)
            else
             some (r11.2, 0)
         else
          some ((a + ((tdiv (b - a) 4) * 2)), 1)
        else none
       else none
      else none
     else none
    else none
   else none
  else none
 else none
theorem sChoose_ret (c : TB) (l : (List Int)) (a : Int) (b : Int) (r : (Int × Int)) (h : sChoose c l a b = some r) : CallsM Tryz.prog G0 1 138 [.vec 0 l.length 1, .int .i64 a, .int .i64 b, cFn c] [(bV (fl e_i64 l) 3)] (.tup [.int .i64 r.1, .int .i64 r.2]) [(bV (fl e_i64 l) 3)] := by
 unfold sChoose at h
 obtain ⟨h1, h⟩ := gdS h
 obtain ⟨h2, h⟩ := gdS h
 obtain ⟨h3, h⟩ := gdS h
 obtain ⟨h4, h⟩ := gdS h
 obtain ⟨h5, h⟩ := gdS h
 obtain ⟨h6, h⟩ := gdS h
 obtain ⟨h7, h⟩ := gdS h
 obtain ⟨h8, h⟩ := gdS h
 let f158 : List CH := (cs 4 (ow :: (cs 4 (ow :: ow :: ow :: (cs 3 (ow :: ow :: ow :: (cs 3 (ow :: ow :: ow :: (cs 2 [oa])))))))))
 have g159 := k2 h1 (k2 ((by decide) : 4 ≠ (0 : Int)) (k2 h2 (k2 h3 (k2 h4 (k2 ((by decide) : 4 ≠ (0 : Int)) (k2 h2 (k2 h5 (k2 h6 (k2 ((by decide) : 4 ≠ (0 : Int)) (k2 h2 (k2 h7 (ok1 h8))))))))))))
 rcases itS h with ⟨c9, h⟩ | ⟨c9, h⟩
 ·rcases itS h with ⟨c10, h⟩ | ⟨c10, h⟩
  ·cases h
  ·obtain ⟨r11, h12, h⟩ := bnS h
   let f160 : List CH := (bt :: oc :: oa :: bf :: (cs 6 ((.spec (fspec 2 [0, 1] [.vec 0 l.length 1, .int .i64 (a + ((tdiv (b - a) 4) * 1)), .int .i64 (a + ((tdiv (b - a) 4) * 2)), .int .i64 (a + ((tdiv (b - a) 4) * 3)), .ptr 1 0, cFn c] [(bV (fl e_i64 l) 3), (bT [.int .i64 0] 3)] (.int .i64 r11.2) [(bV (fl e_i64 l) 3), (bT [.int .i64 r11.1] 3)])) :: (cs 2 [oa, oc]))))
   have g161 := k2 (dT c9) (k2 (dF c10) (k2 ((fspec_ok _ (sMedian_ret c l (a + ((tdiv (b - a) 4) * 1)) (a + ((tdiv (b - a) 4) * 2)) (a + ((tdiv (b - a) 4) * 3)) 0 r11 h12)) : SpecOk Tryz.prog G0 193 (fspec 2 [0, 1] [.vec 0 l.length 1, .int .i64 (a + ((tdiv (b - a) 4) * 1)), .int .i64 (a + ((tdiv (b - a) 4) * 2)), .int .i64 (a + ((tdiv (b - a) 4) * 3)), .ptr 1 0, cFn c] [(bV (fl e_i64 l) 3), (bT [.int .i64 0] 3)] (.int .i64 r11.2) [(bV (fl e_i64 l) 3), (bT [.int .i64 r11.1] 3)])) (ok1 (⟨rfl, rfl, rfl, trivial⟩ : (([.vec 0 l.length 1, .int .i64 (a + ((tdiv (b - a) 4) * 1)), .int .i64 (a + ((tdiv (b - a) 4) * 2)), .int .i64 (a + ((tdiv (b - a) 4) * 3)), .ptr 1 0, cFn c] : List AV) = [.vec 0 l.length 1, .int .i64 (a + ((tdiv (b - a) 4) * 1)), .int .i64 (a + ((tdiv (b - a) 4) * 2)), .int .i64 (a + ((tdiv (b - a) 4) * 3)), .ptr 1 0, cFn c]) ∧ (some (Ob.blk (bV (fl e_i64 l) 3)) = some (Ob.blk (bV (fl e_i64 l) 3))) ∧ (some (Ob.blk (bT [.int .i64 0] 3)) = some (Ob.blk (bT [.int .i64 0] 3))) ∧ True))))
   rcases itS h with ⟨c13, h⟩ | ⟨c13, h⟩
   ·obtain rfl := oI h
    exact CallsM.of_view 1 400 (f158 ++ (f160 ++ (bt :: (cs 3 [])))) [0] (by kernel_rfl) (by kernel_rfl) (aO g159 (aO g161 (ok1 (beq_t c13))))
   ·let f162 : List CH := [.br false, oa, oc]
    rcases itS h with ⟨c14, h⟩ | ⟨c14, h⟩
    ·obtain rfl := oI h
     exact CallsM.of_view 1 400 (f158 ++ (f160 ++ (f162 ++ (bt :: (cs 3 []))))) [0] (by kernel_rfl) (by kernel_rfl) (aO g159 (aO g161 (k2 (beq_f c13) (ok1 (beq_t c14)))))
    ·obtain rfl := oI h
     exact CallsM.of_view 1 400 (f158 ++ (f160 ++ (f162 ++ (bf :: (cs 3 []))))) [0] (by kernel_rfl) (by kernel_rfl) (aO g159 (aO g161 (k2 (beq_f c13) (ok1 (beq_f c14)))))
 ·obtain rfl := oI h
  exact CallsM.of_view 1 400 (f158 ++ (bf :: (cs 3 (bt :: (cs 3 []))))) [0] (by kernel_rfl) (by kernel_rfl) (aO g159 (k2 (dF c9) (ok1 (rfl : true = true))))
end
set_option maxHeartbeats 4000000
set_option maxRecDepth 100000
noncomputable section
open Go Go.Proofs
def sPartial_L33_step (c : TB) (l : (List Int)) (a : Int) (b : Int) (v9 : Int) (k10 : Nat) : Int → Option (Int ⊕ Int) := fun v9 =>
 if v9 < b then
  if (0 : Int) ≤ v9 then
   (l[v9.toNat]?).bind fun x48 =>
   if InR .i64 (v9 - 1) then
    if (0 : Int) ≤ (v9 - 1) then
     (l[(Int.toNat (v9 - 1))]?).bind fun x52 =>
     (cCmp c x48 x52).bind fun r54 =>
     if r54 < (0 : Int) then
      some (Sum.inr v9)
     else
      if InR .i64 (v9 + 1) then
       some (Sum.inl (v9 + 1))
      else none
    else none
   else none
  else none
 else
  some (Sum.inr v9)
def sPartial_L33_H (c : TB) (l : (List Int)) (a : Int) (b : Int) (v9 : Int) (k10 : Nat) : Int → St := fun (s : Int) => S 141 [(0, .vec 0 l.length 1), (1, .int .i64 a), (2, .int .i64 b), (3, cFn c), (9, .int .i64 s), (10, .int .i64 (↑k10 : Int))] [(bV (fl e_i64 l) 3)]
def sPartial_L33_X (c : TB) (l : (List Int)) (a : Int) (b : Int) (v9 : Int) (k10 : Nat) : Int → AEx := fun o => (.exit 2)
def sPartial_L33_T (c : TB) (l : (List Int)) (a : Int) (b : Int) (v9 : Int) (k10 : Nat) : Int → List (Nat × AV) := fun o => [(0, .vec 0 l.length 1), (1, .int .i64 a), (2, .int .i64 b), (3, cFn c), (9, .int .i64 o), (10, .int .i64 (↑k10 : Int))]
def sPartial_L33_B (c : TB) (l : (List Int)) (a : Int) (b : Int) (v9 : Int) (k10 : Nat) : Int → List Blk := fun o => [(bV (fl e_i64 l) 3)]
def sPartial_L33_E (c : TB) (l : (List Int)) (a : Int) (b : Int) (v9 : Int) (k10 : Nat) (q : Int) : St := S 141 (sPartial_L33_T c l a b v9 k10 q) (sPartial_L33_B c l a b v9 k10 q)
theorem sPartial_L33_does (c : TB) (l : (List Int)) (a : Int) (b : Int) (v9 : Int) (k10 : Nat) {s : Int} {r : Int} (h : lp (sPartial_L33_step c l a b v9 k10) s = some r) : Does Tryz.prog G0 1 (.loop (bodyAt Tryz.prog 140 [1, 1, 0, 1, 0, 0, 1, 0, 0, 0, 0, 0])) (sPartial_L33_H c l a b v9 k10 s) (sPartial_L33_X c l a b v9 k10 r) (sPartial_L33_E c l a b v9 k10 r) := by
 refine Does.lp (H := sPartial_L33_H c l a b v9 k10) (X := sPartial_L33_X c l a b v9 k10) (E := sPartial_L33_E c l a b v9 k10) (fun s s2 h => ?_) (fun s r h => ?_) h
 ·revert h; revert s; intro v9 h
  unfold sPartial_L33_step at h
  try dsimp only at h
  rcases itS h with ⟨c46, h⟩ | ⟨c46, h⟩
  ·obtain ⟨h47, h⟩ := gdS h
   obtain ⟨x48, h49, h⟩ := bnS h
   obtain ⟨h50, h⟩ := gdS h
   obtain ⟨h51, h⟩ := gdS h
   obtain ⟨x52, h53, h⟩ := bnS h
   obtain ⟨r54, h55, h⟩ := bnS h
   rcases itS h with ⟨c56, h⟩ | ⟨c56, h⟩
   ·simp at h
   ·obtain ⟨h57, h⟩ := gdS h
    obtain rfl := oL h
    exact Does.of_viewM 1 400 (cs 2 [oa, oc, tc, tc, tc, .op (some true) (.i v9.toNat), .op (some true) (.v [jI x48]), tc, tc, tw, .op (some true) (.i (Int.toNat (v9 - 1))), .op (some true) (.v [jI x52]), .ret (some true) [.any, .any, .any] (jI r54) [], ta, tc, .op none (.b true), .br true, oc, ow, oc]) [0] (by kernel_rfl) (by kernel_rfl) (k2 (dT c46) (k2 (dT c46) (k2 (dT c46) (k2 (dT c46) (k2 (ix h47 h49) (k2 (dT c46) (k2 (s_i64 h49) (k2 (dT c46) (k2 (dT c46) (k2 (dT c46) (k2 h50 (k2 (dT c46) (k2 (ix h51 h53) (k2 (dT c46) (k2 (s_i64 h53) (k2 (dT c46) (k2 (cCmp_ret c x48 x52 r54 h55) (k2 (dT c46) (k2 (dT c46) (k2 (dT c46) (k2 (not_t (dF c56)) (ok1 h57))))))))))))))))))))))
  ·simp at h
 ·revert h; revert s; intro v9 h
  unfold sPartial_L33_step at h
  try dsimp only at h
  let f164 : List CH := (cs 2 [oa, oc])
  rcases itS h with ⟨c46, h⟩ | ⟨c46, h⟩
  ·obtain ⟨h47, h⟩ := gdS h
   obtain ⟨x48, h49, h⟩ := bnS h
   obtain ⟨h50, h⟩ := gdS h
   obtain ⟨h51, h⟩ := gdS h
   obtain ⟨x52, h53, h⟩ := bnS h
   obtain ⟨r54, h55, h⟩ := bnS h
   rcases itS h with ⟨c56, h⟩ | ⟨c56, h⟩
   ·obtain rfl := oR h
    exact ⟨Does.of_viewM 1 400 (f164 ++ [tc, tc, tc, .op (some true) (.i v9.toNat), .op (some true) (.v [jI x48]), tc, tc, tw, .op (some true) (.i (Int.toNat (v9 - 1))), .op (some true) (.v [jI x52]), .ret (some true) [.any, .any, .any] (jI r54) [], ta, tc, .op none (.b true), .br false]) [0] (by kernel_rfl) (by kernel_rfl) (k2 (dT c46) (k2 (dT c46) (k2 (dT c46) (k2 (dT c46) (k2 (ix h47 h49) (k2 (dT c46) (k2 (s_i64 h49) (k2 (dT c46) (k2 (dT c46) (k2 (dT c46) (k2 h50 (k2 (dT c46) (k2 (ix h51 h53) (k2 (dT c46) (k2 (s_i64 h53) (k2 (dT c46) (k2 (cCmp_ret c x48 x52 r54 h55) (k2 (dT c46) (k2 (dT c46) (k2 (dT c46) (ok1 (not_f (dT c56))))))))))))))))))))))), by intro q; cases q⟩
   ·obtain ⟨h57, h⟩ := gdS h
    simp at h
  ·obtain rfl := oR h
   exact ⟨Does.of_viewM 1 400 (f164 ++ [.op (some false) .c, .op (some false) .c, .op (some false) .c, .op (some false) .c, .op (some false) .c, .op (some false) .c, .op (some false) .c, .op (some false) .c, .op (some false) .c, .op (some false) .c, .op (some false) .c, .op (some false) .c, .op (some false) .c, .op none (.b false), .br false]) [0] (by kernel_rfl) (by kernel_rfl) (k2 (dF c46) (k2 (dF c46) (k2 (dF c46) (k2 (dF c46) (k2 (dF c46) (k2 (dF c46) (k2 (dF c46) (k2 (dF c46) (k2 (dF c46) (k2 (dF c46) (k2 (dF c46) (k2 (dF c46) (k2 (dF c46) (k2 (dF c46) (ok1 (rfl : false = false)))))))))))))))), by intro q; cases q⟩
def sPartial_L2_step (c : TB) (l : (List Int)) (a : Int) (b : Int) : (Int × Nat) → Option ((Int × Nat) ⊕ (Bool ⊕ Unit))
 | (v9, k10) =>
  if (↑k10 : Int) < (5 : Int) then
   (lp (sPartial_L33_step c l a b v9 k10) v9).bind fun o33 =>
   if o33 = b then
    some (Sum.inr (Sum.inl true))
   else
    if InR .i64 (b - a) then
     if (b - a) < (50 : Int) then
      some (Sum.inr (Sum.inl false))
     else
      none
    else none
  else
   some (Sum.inr (Sum.inr (())))
def sPartial_L2_H (c : TB) (l : (List Int)) (a : Int) (b : Int) : (Int × Nat) → St := fun (s : (Int × Nat)) => S 141 [(0, .vec 0 l.length 1), (1, .int .i64 a), (2, .int .i64 b), (3, cFn c), (9, .int .i64 s.1), (10, .int .i64 (↑s.2 : Int))] [(bV (fl e_i64 l) 3)]
def sPartial_L2_X (c : TB) (l : (List Int)) (a : Int) (b : Int) : (Bool ⊕ Unit) → AEx := fun q => match q with | Sum.inl o => .ret | Sum.inr (o) => (.exit 0)
def sPartial_L2_T (c : TB) (l : (List Int)) (a : Int) (b : Int) : (Bool ⊕ Unit) → List (Nat × AV) := fun q => match q with | Sum.inl o => [(8, .bool o)] | Sum.inr (o) => []
def sPartial_L2_B (c : TB) (l : (List Int)) (a : Int) (b : Int) : (Bool ⊕ Unit) → List Blk := fun q => match q with | Sum.inl o => [(bV (fl e_i64 l) 3)] | Sum.inr (o) => [(bV (fl e_i64 l) 3)]
def sPartial_L2_E (c : TB) (l : (List Int)) (a : Int) (b : Int) (q : Bool ⊕ Unit) : St := S 141 (sPartial_L2_T c l a b q) (sPartial_L2_B c l a b q)
theorem sPartial_L2_does (c : TB) (l : (List Int)) (a : Int) (b : Int) {s : (Int × Nat)} {r : Bool ⊕ Unit} (h : lp (sPartial_L2_step c l a b) s = some r) : Does Tryz.prog G0 1 (.loop (bodyAt Tryz.prog 140 [1, 1, 0, 1, 0, 0])) (sPartial_L2_H c l a b s) (sPartial_L2_X c l a b r) (sPartial_L2_E c l a b r) := by
 refine Does.lp (H := sPartial_L2_H c l a b) (X := sPartial_L2_X c l a b) (E := sPartial_L2_E c l a b) (fun s s2 h => ?_) (fun s r h => ?_) h
 ·obtain ⟨v9, k10⟩ := s
  unfold sPartial_L2_step at h
  try dsimp only at h
  rcases itS h with ⟨c32, h⟩ | ⟨c32, h⟩
  ·obtain ⟨o33, hl33, h⟩ := bnS h
   rcases itS h with ⟨c58, h⟩ | ⟨c58, h⟩
   ·simp at h
   ·obtain ⟨h59, h⟩ := gdS h
    rcases itS h with ⟨c60, h⟩ | ⟨c60, h⟩
    ·simp at h
    ·cases h
  ·simp at h
 ·obtain ⟨v9, k10⟩ := s
  unfold sPartial_L2_step at h
  try dsimp only at h
  rcases itS h with ⟨c32, h⟩ | ⟨c32, h⟩
  ·obtain ⟨o33, hl33, h⟩ := bnS h
   let f165 : List CH := (oc :: oa :: bt :: (.fcut 1 (.exit 2) (sPartial_L33_T c l a b v9 k10 o33) [(bV (fl e_i64 l) 3)] [0] [(0, .any), (1, .any), (2, .any), (3, .any), (9, .any), (10, .any)] [bS]) :: (cs 2 [oa]))
   rcases itS h with ⟨c58, h⟩ | ⟨c58, h⟩
   ·obtain rfl := oR h
    exact ⟨Does.of_viewM 1 400 (f165 ++ [.br true, oc]) [0] (by kernel_rfl) (by kernel_rfl) (k2 (dT c32) (k2 (sPartial_L33_does c l a b v9 k10 (s := v9) (r := o33) hl33) (ok1 (beq_t c58)))), by intro q; cases q⟩
   ·obtain ⟨h59, h⟩ := gdS h
    rcases itS h with ⟨c60, h⟩ | ⟨c60, h⟩
    ·obtain rfl := oR h
     exact ⟨Does.of_viewM 1 400 (f165 ++ (bf :: (cs 2 [ow, oa, .br true, oc]))) [0] (by kernel_rfl) (by kernel_rfl) (k2 (dT c32) (k2 (sPartial_L33_does c l a b v9 k10 (s := v9) (r := o33) hl33) (k2 (beq_f c58) (k2 h59 (ok1 (dT c60)))))), by intro q; cases q⟩
    ·cases h
  ·obtain rfl := oR h
   exact ⟨Does.of_viewM 1 400 [oc, oa, .br false] [0] (by kernel_rfl) (by kernel_rfl) (ok1 (dF c32)), by intro q; cases q⟩
def sPartial (c : TB) (l : (List Int)) (a : Int) (b : Int) : Option ((List Int) × Bool) :=
 if InR .i64 (a + 1) then
  (lp (sPartial_L2_step c l a b) ((a + 1), (0 : Nat))).bind fun qq => match qq with
  | Sum.inl o2 =>
   some (l, o2)
  | Sum.inr (o2) =>
   some (l, false)
 else none
theorem sPartial_ret (c : TB) (l : (List Int)) (a : Int) (b : Int) (r : ((List Int) × Bool)) (h : sPartial c l a b = some r) : CallsM Tryz.prog G0 1 140 [.vec 0 l.length 1, .int .i64 a, .int .i64 b, cFn c] [(bV (fl e_i64 l) 3)] (.bool r.2) [(bV (fl e_i64 r.1) 3)] := by
 unfold sPartial at h
 obtain ⟨h1, h⟩ := gdS h
 let f166 : List CH := (cs 2 (ow :: (cs 2 [])))
 obtain ⟨qq, hl2, h⟩ := bnS h
 rcases qq with o2 | o2
 ·dsimp only at h
  obtain rfl := oI h
  exact CallsM.of_view 1 400 (f166 ++ [.fcut 1 .ret [(8, .bool o2)] [(bV (fl e_i64 l) 3)] [0] [(0, .any), (1, .any), (2, .any), (3, .any), (9, .any), (10, jI (↑(0 : Nat) : Int))] [bS]]) [0] (by kernel_rfl) (by kernel_rfl) (k2 h1 (k2 (rfl : (jI 0 : AV) = jI (↑(0 : Nat) : Int)) (ok1 (sPartial_L2_does c l a b (s := ((a + 1), (0 : Nat))) (r := Sum.inl o2) hl2))))
 ·dsimp only at h
  obtain rfl := oI h
  exact CallsM.of_view 1 400 (f166 ++ [.fcut 1 (.exit 0) [] [(bV (fl e_i64 l) 3)] [0] [(0, .any), (1, .any), (2, .any), (3, .any), (9, .any), (10, jI (↑(0 : Nat) : Int))] [bS], oc]) [0] (by kernel_rfl) (by kernel_rfl) (k2 h1 (k2 (rfl : (jI 0 : AV) = jI (↑(0 : Nat) : Int)) (ok1 (sPartial_L2_does c l a b (s := ((a + 1), (0 : Nat))) (r := Sum.inr (o2)) hl2))))
def sPartEq_L138_step (c : TB) (a : Int) (v11 : Int) (v12 : Int) (b0 : (List Int)) : Int → Option (Int ⊕ Int) := fun v11 =>
 if v11 ≤ v12 then
  if (0 : Int) ≤ a then
   (b0[a.toNat]?).bind fun x152 =>
   if (0 : Int) ≤ v11 then
    (b0[v11.toNat]?).bind fun x155 =>
    (cCmp c x152 x155).bind fun r157 =>
    if r157 < (0 : Int) then
     some (Sum.inr v11)
    else
     if InR .i64 (v11 + 1) then
      some (Sum.inl (v11 + 1))
     else none
   else none
  else none
 else
  some (Sum.inr v11)
def sPartEq_L138_H (c : TB) (a : Int) (v11 : Int) (v12 : Int) (b0 : (List Int)) : Int → St := fun (s : Int) => S 90 [(0, .vec 0 b0.length 1), (1, .int .i64 a), (4, cFn c), (11, .int .i64 s), (12, .int .i64 v12)] [(bV (fl e_i64 b0) 3)]
def sPartEq_L138_X (c : TB) (a : Int) (v11 : Int) (v12 : Int) (b0 : (List Int)) : Int → AEx := fun o => (.exit 2)
def sPartEq_L138_T (c : TB) (a : Int) (v11 : Int) (v12 : Int) (b0 : (List Int)) : Int → List (Nat × AV) := fun o => [(0, .vec 0 b0.length 1), (1, .int .i64 a), (4, cFn c), (11, .int .i64 o), (12, .int .i64 v12)]
def sPartEq_L138_B (c : TB) (a : Int) (v11 : Int) (v12 : Int) (b0 : (List Int)) : Int → List Blk := fun o => [(bV (fl e_i64 b0) 3)]
def sPartEq_L138_E (c : TB) (a : Int) (v11 : Int) (v12 : Int) (b0 : (List Int)) (q : Int) : St := S 90 (sPartEq_L138_T c a v11 v12 b0 q) (sPartEq_L138_B c a v11 v12 b0 q)
theorem sPartEq_L138_does (c : TB) (a : Int) (v11 : Int) (v12 : Int) (b0 : (List Int)) {s : Int} {r : Int} (h : lp (sPartEq_L138_step c a v11 v12 b0) s = some r) : Does Tryz.prog G0 1 (.loop (bodyAt Tryz.prog 141 [1, 1, 1, 0, 0, 0, 0, 0, 0, 0])) (sPartEq_L138_H c a v11 v12 b0 s) (sPartEq_L138_X c a v11 v12 b0 r) (sPartEq_L138_E c a v11 v12 b0 r) := by
 refine Does.lp (H := sPartEq_L138_H c a v11 v12 b0) (X := sPartEq_L138_X c a v11 v12 b0) (E := sPartEq_L138_E c a v11 v12 b0) (fun s s2 h => ?_) (fun s r h => ?_) h
 ·revert h; revert s; intro v11 h
  unfold sPartEq_L138_step at h
  try dsimp only at h
  rcases itS h with ⟨c150, h⟩ | ⟨c150, h⟩
  ·obtain ⟨h151, h⟩ := gdS h
   obtain ⟨x152, h153, h⟩ := bnS h
   obtain ⟨h154, h⟩ := gdS h
   obtain ⟨x155, h156, h⟩ := bnS h
   obtain ⟨r157, h158, h⟩ := bnS h
   rcases itS h with ⟨c159, h⟩ | ⟨c159, h⟩
   ·simp at h
   ·obtain ⟨h160, h⟩ := gdS h
    obtain rfl := oL h
    exact Does.of_viewM 1 400 (cs 2 [oa, oc, tc, tc, tc, .op (some true) (.i a.toNat), .op (some true) (.v [jI x152]), tc, tc, .op (some true) (.i v11.toNat), .op (some true) (.v [jI x155]), .ret (some true) [.any, .any, .any] (jI r157) [], ta, tc, .op none (.b true), .br true, oc, ow, oc]) [0] (by kernel_rfl) (by kernel_rfl) (k2 (dT c150) (k2 (dT c150) (k2 (dT c150) (k2 (dT c150) (k2 (ix h151 h153) (k2 (dT c150) (k2 (s_i64 h153) (k2 (dT c150) (k2 (dT c150) (k2 (dT c150) (k2 (ix h154 h156) (k2 (dT c150) (k2 (s_i64 h156) (k2 (dT c150) (k2 (cCmp_ret c x152 x155 r157 h158) (k2 (dT c150) (k2 (dT c150) (k2 (dT c150) (k2 (not_t (dF c159)) (ok1 h160))))))))))))))))))))
  ·simp at h
 ·revert h; revert s; intro v11 h
  unfold sPartEq_L138_step at h
  try dsimp only at h
  let f171 : List CH := (cs 2 [oa, oc])
  rcases itS h with ⟨c150, h⟩ | ⟨c150, h⟩
  ·obtain ⟨h151, h⟩ := gdS h
   obtain ⟨x152, h153, h⟩ := bnS h
   obtain ⟨h154, h⟩ := gdS h
   obtain ⟨x155, h156, h⟩ := bnS h
   obtain ⟨r157, h158, h⟩ := bnS h
   rcases itS h with ⟨c159, h⟩ | ⟨c159, h⟩
   ·obtain rfl := oR h
    exact ⟨Does.of_viewM 1 400 (f171 ++ [tc, tc, tc, .op (some true) (.i a.toNat), .op (some true) (.v [jI x152]), tc, tc, .op (some true) (.i v11.toNat), .op (some true) (.v [jI x155]), .ret (some true) [.any, .any, .any] (jI r157) [], ta, tc, .op none (.b true), .br false]) [0] (by kernel_rfl) (by kernel_rfl) (k2 (dT c150) (k2 (dT c150) (k2 (dT c150) (k2 (dT c150) (k2 (ix h151 h153) (k2 (dT c150) (k2 (s_i64 h153) (k2 (dT c150) (k2 (dT c150) (k2 (dT c150) (k2 (ix h154 h156) (k2 (dT c150) (k2 (s_i64 h156) (k2 (dT c150) (k2 (cCmp_ret c x152 x155 r157 h158) (k2 (dT c150) (k2 (dT c150) (k2 (dT c150) (ok1 (not_f (dT c159))))))))))))))))))))), by intro q; cases q⟩
   ·obtain ⟨h160, h⟩ := gdS h
    simp at h
  ·obtain rfl := oR h
   exact ⟨Does.of_viewM 1 400 (f171 ++ [.op (some false) .c, .op (some false) .c, .op (some false) .c, .op (some false) .c, .op (some false) .c, .op (some false) .c, .op (some false) .c, .op (some false) .c, .op (some false) .c, .op (some false) .c, .op (some false) .c, .op (some false) .c, .op none (.b false), .br false]) [0] (by kernel_rfl) (by kernel_rfl) (k2 (dF c150) (k2 (dF c150) (k2 (dF c150) (k2 (dF c150) (k2 (dF c150) (k2 (dF c150) (k2 (dF c150) (k2 (dF c150) (k2 (dF c150) (k2 (dF c150) (k2 (dF c150) (k2 (dF c150) (k2 (dF c150) (ok1 (rfl : false = false))))))))))))))), by intro q; cases q⟩
def sPartEq_L161_step (c : TB) (a : Int) (v12 : Int) (b0 : (List Int)) (o138 : Int) : Int → Option (Int ⊕ Int) := fun v12 =>
 if o138 ≤ v12 then
  if (0 : Int) ≤ a then
   (b0[a.toNat]?).bind fun x175 =>
   if (0 : Int) ≤ v12 then
    (b0[v12.toNat]?).bind fun x178 =>
    (cCmp c x175 x178).bind fun r180 =>
    if r180 < (0 : Int) then
     if InR .i64 (v12 - 1) then
      some (Sum.inl (v12 - 1))
     else none
    else
     some (Sum.inr v12)
   else none
  else none
 else
  some (Sum.inr v12)
def sPartEq_L161_H (c : TB) (a : Int) (v12 : Int) (b0 : (List Int)) (o138 : Int) : Int → St := fun (s : Int) => S 90 [(0, .vec 0 b0.length 1), (1, .int .i64 a), (4, cFn c), (11, .int .i64 o138), (12, .int .i64 s)] [(bV (fl e_i64 b0) 3)]
def sPartEq_L161_X (c : TB) (a : Int) (v12 : Int) (b0 : (List Int)) (o138 : Int) : Int → AEx := fun o => (.exit 4)
def sPartEq_L161_T (c : TB) (a : Int) (v12 : Int) (b0 : (List Int)) (o138 : Int) : Int → List (Nat × AV) := fun o => [(0, .vec 0 b0.length 1), (1, .int .i64 a), (4, cFn c), (11, .int .i64 o138), (12, .int .i64 o)]
def sPartEq_L161_B (c : TB) (a : Int) (v12 : Int) (b0 : (List Int)) (o138 : Int) : Int → List Blk := fun o => [(bV (fl e_i64 b0) 3)]
def sPartEq_L161_E (c : TB) (a : Int) (v12 : Int) (b0 : (List Int)) (o138 : Int) (q : Int) : St := S 90 (sPartEq_L161_T c a v12 b0 o138 q) (sPartEq_L161_B c a v12 b0 o138 q)
theorem sPartEq_L161_does (c : TB) (a : Int) (v12 : Int) (b0 : (List Int)) (o138 : Int) {s : Int} {r : Int} (h : lp (sPartEq_L161_step c a v12 b0 o138) s = some r) : Does Tryz.prog G0 1 (.loop (bodyAt Tryz.prog 141 [1, 1, 1, 0, 0, 0, 0, 1, 0, 0, 0])) (sPartEq_L161_H c a v12 b0 o138 s) (sPartEq_L161_X c a v12 b0 o138 r) (sPartEq_L161_E c a v12 b0 o138 r) := by
 refine Does.lp (H := sPartEq_L161_H c a v12 b0 o138) (X := sPartEq_L161_X c a v12 b0 o138) (E := sPartEq_L161_E c a v12 b0 o138) (fun s s2 h => ?_) (fun s r h => ?_) h
 ·revert h; revert s; intro v12 h
  unfold sPartEq_L161_step at h
  try dsimp only at h
  rcases itS h with ⟨c173, h⟩ | ⟨c173, h⟩
  ·obtain ⟨h174, h⟩ := gdS h
   obtain ⟨x175, h176, h⟩ := bnS h
   obtain ⟨h177, h⟩ := gdS h
   obtain ⟨x178, h179, h⟩ := bnS h
   obtain ⟨r180, h181, h⟩ := bnS h
   rcases itS h with ⟨c182, h⟩ | ⟨c182, h⟩
   ·obtain ⟨h183, h⟩ := gdS h
    obtain rfl := oL h
    exact Does.of_viewM 1 400 (cs 2 [oa, oc, tc, tc, tc, .op (some true) (.i a.toNat), .op (some true) (.v [jI x175]), tc, tc, .op (some true) (.i v12.toNat), .op (some true) (.v [jI x178]), .ret (some true) [.any, .any, .any] (jI r180) [], ta, .op none (.b true), .br true, oc, ow, oc]) [0] (by kernel_rfl) (by kernel_rfl) (k2 (dT c173) (k2 (dT c173) (k2 (dT c173) (k2 (dT c173) (k2 (ix h174 h176) (k2 (dT c173) (k2 (s_i64 h176) (k2 (dT c173) (k2 (dT c173) (k2 (dT c173) (k2 (ix h177 h179) (k2 (dT c173) (k2 (s_i64 h179) (k2 (dT c173) (k2 (cCmp_ret c x175 x178 r180 h181) (k2 (dT c173) (k2 (dT c173) (k2 (dT c182) (ok1 h183)))))))))))))))))))
   ·simp at h
  ·simp at h
 ·revert h; revert s; intro v12 h
  unfold sPartEq_L161_step at h
  try dsimp only at h
  let f172 : List CH := (cs 2 [oa, oc])
  rcases itS h with ⟨c173, h⟩ | ⟨c173, h⟩
  ·obtain ⟨h174, h⟩ := gdS h
   obtain ⟨x175, h176, h⟩ := bnS h
   obtain ⟨h177, h⟩ := gdS h
   obtain ⟨x178, h179, h⟩ := bnS h
   obtain ⟨r180, h181, h⟩ := bnS h
   rcases itS h with ⟨c182, h⟩ | ⟨c182, h⟩
   ·obtain ⟨h183, h⟩ := gdS h
    simp at h
   ·obtain rfl := oR h
    exact ⟨Does.of_viewM 1 400 (f172 ++ [tc, tc, tc, .op (some true) (.i a.toNat), .op (some true) (.v [jI x175]), tc, tc, .op (some true) (.i v12.toNat), .op (some true) (.v [jI x178]), .ret (some true) [.any, .any, .any] (jI r180) [], ta, .op none (.b true), .br false]) [0] (by kernel_rfl) (by kernel_rfl) (k2 (dT c173) (k2 (dT c173) (k2 (dT c173) (k2 (dT c173) (k2 (ix h174 h176) (k2 (dT c173) (k2 (s_i64 h176) (k2 (dT c173) (k2 (dT c173) (k2 (dT c173) (k2 (ix h177 h179) (k2 (dT c173) (k2 (s_i64 h179) (k2 (dT c173) (k2 (cCmp_ret c x175 x178 r180 h181) (k2 (dT c173) (k2 (dT c173) (ok1 (dF c182))))))))))))))))))), by intro q; cases q⟩
  ·obtain rfl := oR h
   exact ⟨Does.of_viewM 1 400 (f172 ++ [.op (some false) .c, .op (some false) .c, .op (some false) .c, .op (some false) .c, .op (some false) .c, .op (some false) .c, .op (some false) .c, .op (some false) .c, .op (some false) .c, .op (some false) .c, .op (some false) .c, .op none (.b false), .br false]) [0] (by kernel_rfl) (by kernel_rfl) (k2 (dF c173) (k2 (dF c173) (k2 (dF c173) (k2 (dF c173) (k2 (dF c173) (k2 (dF c173) (k2 (dF c173) (k2 (dF c173) (k2 (dF c173) (k2 (dF c173) (k2 (dF c173) (k2 (dF c173) (ok1 (rfl : false = false)))))))))))))), by intro q; cases q⟩
def sPartEq_L12_step (c : TB) (a : Int) : (Int × Int × (List Int)) → Option ((Int × Int × (List Int)) ⊕ (Int × (List Int)))
 | (v11, v12, b0) =>
  (lp (sPartEq_L138_step c a v11 v12 b0) v11).bind fun o138 =>
  (lp (sPartEq_L161_step c a v12 b0 o138) v12).bind fun o161 =>
  if o138 > o161 then
   some (Sum.inr (o138, b0))
  else
   if (0 : Int) ≤ o161 then
    (b0[o161.toNat]?).bind fun x186 =>
    if (0 : Int) ≤ o138 then
     (b0[o138.toNat]?).bind fun x189 =>
     if o161.toNat < b0.length then
      ((List.set b0 o138.toNat x186)[o161.toNat]?).bind fun x192 =>
      if InR .i64 (o138 + 1) then
       if InR .i64 (o161 - 1) then
        some (Sum.inl ((o138 + 1), (o161 - 1), (List.set (List.set b0 o138.toNat x186) o161.toNat x189)))
       else none
      else none
     else none
    else none
   else none
def sPartEq_L12_H (c : TB) (a : Int) : (Int × Int × (List Int)) → St := fun (s : (Int × Int × (List Int))) => S 90 [(0, .vec 0 s.2.2.length 1), (1, .int .i64 a), (4, cFn c), (11, .int .i64 s.1), (12, .int .i64 s.2.1)] [(bV (fl e_i64 s.2.2) 3)]
def sPartEq_L12_X (c : TB) (a : Int) : (Int × (List Int)) → AEx := fun o => (.exit 0)
def sPartEq_L12_T (c : TB) (a : Int) : (Int × (List Int)) → List (Nat × AV) := fun o => [(11, .int .i64 o.1)]
def sPartEq_L12_B (c : TB) (a : Int) : (Int × (List Int)) → List Blk := fun o => [(bV (fl e_i64 o.2) 3)]
def sPartEq_L12_E (c : TB) (a : Int) (q : (Int × (List Int))) : St := S 90 (sPartEq_L12_T c a q) (sPartEq_L12_B c a q)
theorem sPartEq_L12_does (c : TB) (a : Int) {s : (Int × Int × (List Int))} {r : (Int × (List Int))} (h : lp (sPartEq_L12_step c a) s = some r) : Does Tryz.prog G0 1 (.loop (bodyAt Tryz.prog 141 [1, 1, 1, 0, 0, 0])) (sPartEq_L12_H c a s) (sPartEq_L12_X c a r) (sPartEq_L12_E c a r) := by
 refine Does.lp (H := sPartEq_L12_H c a) (X := sPartEq_L12_X c a) (E := sPartEq_L12_E c a) (fun s s2 h => ?_) (fun s r h => ?_) h
 ·obtain ⟨v11, v12, b0⟩ := s
  unfold sPartEq_L12_step at h
  try dsimp only at h
  obtain ⟨o138, hl138, h⟩ := bnS h
  obtain ⟨o161, hl161, h⟩ := bnS h
  rcases itS h with ⟨c184, h⟩ | ⟨c184, h⟩
  ·simp at h
  ·obtain ⟨h185, h⟩ := gdS h
   obtain ⟨x186, h187, h⟩ := bnS h
   obtain ⟨h188, h⟩ := gdS h
   obtain ⟨x189, h190, h⟩ := bnS h
   obtain ⟨h191, h⟩ := gdS h
   obtain ⟨x192, h193, h⟩ := bnS h
   obtain ⟨h194, h⟩ := gdS h
   obtain ⟨h195, h⟩ := gdS h
   obtain rfl := oL h
   simp only [sPartEq_L12_H, List.length_set]
   exact Does.of_viewM 1 400 ((.fcut 1 (.exit 2) (sPartEq_L138_T c a v11 v12 b0 o138) [(bV (fl e_i64 b0) 3)] [0] [(0, .any), (1, .any), (4, .any), (11, .any), (12, .any)] [bS]) :: (.fcut 1 (.exit 4) (sPartEq_L161_T c a v12 b0 o138 o161) [(bV (fl e_i64 b0) 3)] [0] [(0, .any), (1, .any), (4, .any), (11, .any), (12, .any)] [bS]) :: (cs 2 (oa :: bf :: (cs 6 ((.op none (.i o161.toNat)) :: (vI x186) :: (cs 2 ((.op none (.i o138.toNat)) :: (vI x189) :: (.op none (.i o138.toNat)) :: oa :: (.trp (.eqc 0 (fl e_i64 (List.set b0 o138.toNat x186)))) :: (.op none (.i o161.toNat)) :: oa :: (.trp (.eqc 0 (fl e_i64 (List.set (List.set b0 o138.toNat x186) o161.toNat x189)))) :: oc :: ow :: (cs 2 [ow, oc])))))))) [0] (by kernel_rfl) (by kernel_rfl) (k2 (sPartEq_L138_does c a v11 v12 b0 (s := v11) (r := o138) hl138) (k2 (sPartEq_L161_does c a v12 b0 o138 (s := v12) (r := o161) hl161) (k2 (dF c184) (k2 (ix h185 h187) (k2 (s_i64 h187) (k2 (ix h188 h190) (k2 (s_i64 h190) (k2 (ix h188 h190) (k2 (rm_i64 h190) (k2 (st_i64 x186 h190) (k2 (iy h185 h191) (k2 (rm_i64 h193) (k2 (st_i64 x189 h193) (k2 h194 (ok1 h195)))))))))))))))
 ·obtain ⟨v11, v12, b0⟩ := s
  unfold sPartEq_L12_step at h
  try dsimp only at h
  obtain ⟨o138, hl138, h⟩ := bnS h
  obtain ⟨o161, hl161, h⟩ := bnS h
  rcases itS h with ⟨c184, h⟩ | ⟨c184, h⟩
  ·obtain rfl := oR h
   exact ⟨Does.of_viewM 1 400 ((.fcut 1 (.exit 2) (sPartEq_L138_T c a v11 v12 b0 o138) [(bV (fl e_i64 b0) 3)] [0] [(0, .any), (1, .any), (4, .any), (11, .any), (12, .any)] [bS]) :: (.fcut 1 (.exit 4) (sPartEq_L161_T c a v12 b0 o138 o161) [(bV (fl e_i64 b0) 3)] [0] [(0, .any), (1, .any), (4, .any), (11, .any), (12, .any)] [bS]) :: (cs 2 [oa, .br true])) [0] (by kernel_rfl) (by kernel_rfl) (k2 (sPartEq_L138_does c a v11 v12 b0 (s := v11) (r := o138) hl138) (k2 (sPartEq_L161_does c a v12 b0 o138 (s := v12) (r := o161) hl161) (ok1 (dT c184)))), by intro q; cases q⟩
  ·obtain ⟨h185, h⟩ := gdS h
   obtain ⟨x186, h187, h⟩ := bnS h
   obtain ⟨h188, h⟩ := gdS h
   obtain ⟨x189, h190, h⟩ := bnS h
   obtain ⟨h191, h⟩ := gdS h
   obtain ⟨x192, h193, h⟩ := bnS h
   obtain ⟨h194, h⟩ := gdS h
   obtain ⟨h195, h⟩ := gdS h
   simp at h
def sPartEq (c : TB) (l : (List Int)) (a : Int) (b : Int) (pv : Int) : Option ((List Int) × Int) :=
 if (0 : Int) ≤ pv then
  (l[pv.toNat]?).bind fun x2 =>
  if (0 : Int) ≤ a then
   (l[a.toNat]?).bind fun x5 =>
   if pv.toNat < l.length then
    ((List.set l a.toNat x2)[pv.toNat]?).bind fun x8 =>
    if InR .i64 (a + 1) then
     if InR .i64 (b - 1) then
      (lp (sPartEq_L12_step c a) ((a + 1), (b - 1), (List.set (List.set l a.toNat x2) pv.toNat x5))).bind fun o12 =>
      some (o12.2, o12.1)
     else none
    else none
   else none
  else none
 else none
theorem sPartEq_ret (c : TB) (l : (List Int)) (a : Int) (b : Int) (pv : Int) (r : ((List Int) × Int)) (h : sPartEq c l a b pv = some r) : CallsM Tryz.prog G0 1 141 [.vec 0 l.length 1, .int .i64 a, .int .i64 b, .int .i64 pv, cFn c] [(bV (fl e_i64 l) 3)] (.int .i64 r.2) [(bV (fl e_i64 r.1) 3)] := by
 unfold sPartEq at h
 obtain ⟨h1, h⟩ := gdS h
 obtain ⟨x2, h3, h⟩ := bnS h
 obtain ⟨h4, h⟩ := gdS h
 obtain ⟨x5, h6, h⟩ := bnS h
 obtain ⟨h7, h⟩ := gdS h
 obtain ⟨x8, h9, h⟩ := bnS h
 obtain ⟨h10, h⟩ := gdS h
 obtain ⟨h11, h⟩ := gdS h
 obtain ⟨o12, hl12, h⟩ := bnS h
 obtain rfl := oI h
 exact CallsM.of_view 1 400 (cs 7 ((.op none (.i pv.toNat)) :: (vI x2) :: (cs 2 ((.op none (.i a.toNat)) :: (vI x5) :: (.op none (.i a.toNat)) :: oa :: (.trp (.eqc 0 (fl e_i64 (List.set l a.toNat x2)))) :: (.op none (.i pv.toNat)) :: oa :: (.trp (.eqc 0 (fl e_i64 (List.set (List.set l a.toNat x2) pv.toNat x5)))) :: oc :: ow :: oc :: ow :: (cs 2 ((.fcut 1 (.exit 0) [(11, jI o12.1)] (sPartEq_L12_B c a o12) [0] [(0, .vec 0 ((List.set (List.set l a.toNat x2) pv.toNat x5).length) 1), (1, .any), (4, .any), (11, .any), (12, .any)] [bS]) :: (cs 2 []))))))) [0] (by kernel_rfl) (by kernel_rfl) (k2 (ix h1 h3) (k2 (s_i64 h3) (k2 (ix h4 h6) (k2 (s_i64 h6) (k2 (ix h4 h6) (k2 (rm_i64 h6) (k2 (st_i64 x2 h6) (k2 (iy h1 h7) (k2 (rm_i64 h9) (k2 (st_i64 x5 h9) (k2 h10 (k2 h11 (k2 ((by first | rfl | simp only [List.length_replicate, List.length_set]) : (.vec 0 l.length 1 : AV) = .vec 0 ((List.set (List.set l a.toNat x2) pv.toNat x5).length) 1) (ok1 (sPartEq_L12_does c a (s := ((a + 1), (b - 1), (List.set (List.set l a.toNat x2) pv.toNat x5))) (r := o12) hl12)))))))))))))))
end
end Go.Proofs.YtpadimnchmghpaaGreatDoor.Av
