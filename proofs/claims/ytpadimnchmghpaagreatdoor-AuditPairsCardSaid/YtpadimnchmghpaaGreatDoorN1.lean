import Derived.Test.YtpadimnchmghpaaGreatDoorAvZ
import Derived.Test.YtpadimnchmghpaaGreatDoorProg
import Derived.Tactics
import Derived.Test.YtpadimnchmghpaaGreatDoorN0
set_option linter.unusedVariables false
set_option linter.unusedSimpArgs false
set_option maxHeartbeats 4000000
namespace Go.Proofs.YtpadimnchmghpaaGreatDoor.Av
open Go Go.Proofs
noncomputable def digest_Join (a_0 : Int) (b_1 : Int) : Option Int :=
  (some (IntKind.wrap .u8 (Int.fdiv a_0 (2 ^ (min (Int.toNat 56) (IntKind.bits .u64)))))).bind fun y1 =>
  (some (IntKind.wrap .u8 (Int.fdiv a_0 (2 ^ (min (Int.toNat 48) (IntKind.bits .u64)))))).bind fun y3 =>
  (some (IntKind.wrap .u8 (Int.fdiv a_0 (2 ^ (min (Int.toNat 40) (IntKind.bits .u64)))))).bind fun y5 =>
  (some (IntKind.wrap .u8 (Int.fdiv a_0 (2 ^ (min (Int.toNat 32) (IntKind.bits .u64)))))).bind fun y7 =>
  (some (IntKind.wrap .u8 (Int.fdiv a_0 (2 ^ (min (Int.toNat 24) (IntKind.bits .u64)))))).bind fun y9 =>
  (some (IntKind.wrap .u8 (Int.fdiv a_0 (2 ^ (min (Int.toNat 16) (IntKind.bits .u64)))))).bind fun y11 =>
  (some (IntKind.wrap .u8 (Int.fdiv a_0 (2 ^ (min (Int.toNat 8) (IntKind.bits .u64)))))).bind fun y13 =>
  (some (IntKind.wrap .u8 (Int.fdiv a_0 (2 ^ (min (Int.toNat 0) (IntKind.bits .u64)))))).bind fun y15 =>
  (some (IntKind.wrap .u8 (Int.fdiv b_1 (2 ^ (min (Int.toNat 56) (IntKind.bits .u64)))))).bind fun y17 =>
  (some (IntKind.wrap .u8 (Int.fdiv b_1 (2 ^ (min (Int.toNat 48) (IntKind.bits .u64)))))).bind fun y19 =>
  (some (IntKind.wrap .u8 (Int.fdiv b_1 (2 ^ (min (Int.toNat 40) (IntKind.bits .u64)))))).bind fun y21 =>
  (some (IntKind.wrap .u8 (Int.fdiv b_1 (2 ^ (min (Int.toNat 32) (IntKind.bits .u64)))))).bind fun y23 =>
  (some (IntKind.wrap .u8 (Int.fdiv b_1 (2 ^ (min (Int.toNat 24) (IntKind.bits .u64)))))).bind fun y25 =>
  (some (IntKind.wrap .u8 (Int.fdiv b_1 (2 ^ (min (Int.toNat 16) (IntKind.bits .u64)))))).bind fun y27 =>
  (some (IntKind.wrap .u8 (Int.fdiv b_1 (2 ^ (min (Int.toNat 8) (IntKind.bits .u64)))))).bind fun y29 =>
  (some (IntKind.wrap .u8 (Int.fdiv b_1 (2 ^ (min (Int.toNat 0) (IntKind.bits .u64)))))).bind fun y31 =>
  if InR .u8 (y1) then
    if InR .u8 (y3) then
      if InR .u8 (y5) then
        if InR .u8 (y7) then
          if InR .u8 (y9) then
            if InR .u8 (y11) then
              if InR .u8 (y13) then
                if InR .u8 (y15) then
                  if InR .u8 (y17) then
                    if InR .u8 (y19) then
                      if InR .u8 (y21) then
                        if InR .u8 (y23) then
                          if InR .u8 (y25) then
                            if InR .u8 (y27) then
                              if InR .u8 (y29) then
                                if InR .u8 (y31) then
                                  (digest_Hash ([(UInt8.ofNat (Int.toNat y1)), (UInt8.ofNat (Int.toNat y3)), (UInt8.ofNat (Int.toNat y5)), (UInt8.ofNat (Int.toNat y7)), (UInt8.ofNat (Int.toNat y9)), (UInt8.ofNat (Int.toNat y11)), (UInt8.ofNat (Int.toNat y13)), (UInt8.ofNat (Int.toNat y15)), (UInt8.ofNat (Int.toNat y17)), (UInt8.ofNat (Int.toNat y19)), (UInt8.ofNat (Int.toNat y21)), (UInt8.ofNat (Int.toNat y23)), (UInt8.ofNat (Int.toNat y25)), (UInt8.ofNat (Int.toNat y27)), (UInt8.ofNat (Int.toNat y29)), (UInt8.ofNat (Int.toNat y31))] : List UInt8)).bind fun r49 =>
                                  some r49
                                else none
                              else none
                            else none
                          else none
                        else none
                      else none
                    else none
                  else none
                else none
              else none
            else none
          else none
        else none
      else none
    else none
  else none
def digest_Join_h1 (y1 : Int) (y3 : Int) (y5 : Int) (y7 : Int) (y9 : Int) : List CH := (cs 8 ((.br true) :: (cs 5 ((.br true) :: (cs 7 ((.op none .a) :: (.op none .a) :: (.tr (.eqt (.t 26) (.int .u8 y1))) :: (.op none .c) :: (.op none (.ap 2)) :: (cs 4 ((.br true) :: (cs 7 ((.op none .a) :: (.op none .a) :: (.tr (.eqt (.t 26) (.int .u8 y3))) :: (.op none .c) :: (.op none (.ap 3)) :: (cs 4 ((.br true) :: (cs 7 ((.op none .a) :: (.op none .a) :: (.tr (.eqt (.t 26) (.int .u8 y5))) :: (.op none .c) :: (.op none (.ap 3)) :: (cs 4 ((.br true) :: (cs 7 ((.op none .a) :: (.op none .a) :: (.tr (.eqt (.t 26) (.int .u8 y7))) :: (.op none .c) :: (.op none (.ap 3)) :: (cs 4 ((.br true) :: (cs 7 ((.op none .a) :: (.op none .a) :: (.tr (.eqt (.t 26) (.int .u8 y9))) :: (.op none .c) :: (.op none (.ap 3)) :: (cs 4 [.br true])))))))))))))))))))))))
def digest_Join_h2 (y11 : Int) (y13 : Int) (y15 : Int) (y17 : Int) (y19 : Int) : List CH := (cs 7 ((.op none .a) :: (.op none .a) :: (.tr (.eqt (.t 26) (.int .u8 y11))) :: (.op none .c) :: (.op none (.ap 3)) :: (cs 4 ((.br true) :: (cs 7 ((.op none .a) :: (.op none .a) :: (.tr (.eqt (.t 26) (.int .u8 y13))) :: (.op none .c) :: (.op none (.ap 3)) :: (cs 4 ((.br true) :: (cs 7 ((.op none .a) :: (.op none .a) :: (.tr (.eqt (.t 26) (.int .u8 y15))) :: (.op none .c) :: (.op none (.ap 3)) :: (cs 4 ((.br false) :: (cs 3 ((.br true) :: (cs 5 ((.br true) :: (cs 7 ((.op none .a) :: (.op none .a) :: (.tr (.eqt (.t 26) (.int .u8 y17))) :: (.op none .c) :: (.op none (.ap 3)) :: (cs 4 ((.br true) :: (cs 7 ((.op none .a) :: (.op none .a) :: (.tr (.eqt (.t 26) (.int .u8 y19))) :: (.op none .c) :: (.op none (.ap 3)) :: (cs 4 ((.br true) :: (cs 5 [])))))))))))))))))))))))))
def digest_Join_p3 (a_0 : Int) (b_1 : Int) (y1 : Int) (y3 : Int) (y5 : Int) (y7 : Int) (y9 : Int) (y11 : Int) (y13 : Int) (y15 : Int) (y17 : Int) (y19 : Int) (y21 : Int) (y23 : Int) (y25 : Int) : List Prop := [(true = true), (true = true), ((0 : Int) ≤ 56), ((.int .u8 (IntKind.wrap .u8 (Int.fdiv a_0 (2 ^ (min (Int.toNat 56) (IntKind.bits .u64))))) : AV) = .int .u8 y1), (0 + 1 ≤ List.length ([.int .u8 y1] : List AV)), (0 < 1), (1 ≤ 4294967296), (true = true), ((0 : Int) ≤ 48), ((.int .u8 (IntKind.wrap .u8 (Int.fdiv a_0 (2 ^ (min (Int.toNat 48) (IntKind.bits .u64))))) : AV) = .int .u8 y3), (0 + 1 ≤ List.length ([.int .u8 y3] : List AV)), (0 < 1), (List.length ([.int .u8 y1] : List AV) = 1), (List.all ([.int .u8 y3] : List AV) AV.one = true), (1 + 1 ≤ 4294967296), (true = true), ((0 : Int) ≤ 40), ((.int .u8 (IntKind.wrap .u8 (Int.fdiv a_0 (2 ^ (min (Int.toNat 40) (IntKind.bits .u64))))) : AV) = .int .u8 y5), (0 + 1 ≤ List.length ([.int .u8 y5] : List AV)), (0 < 1), (List.length ([.int .u8 y1, .int .u8 y3] : List AV) = 2), (List.all ([.int .u8 y5] : List AV) AV.one = true), (2 + 1 ≤ 4294967296), (true = true), ((0 : Int) ≤ 32), ((.int .u8 (IntKind.wrap .u8 (Int.fdiv a_0 (2 ^ (min (Int.toNat 32) (IntKind.bits .u64))))) : AV) = .int .u8 y7), (0 + 1 ≤ List.length ([.int .u8 y7] : List AV)), (0 < 1), (List.length ([.int .u8 y1, .int .u8 y3, .int .u8 y5] : List AV) = 3), (List.all ([.int .u8 y7] : List AV) AV.one = true), (3 + 1 ≤ 4294967296), (true = true), ((0 : Int) ≤ 24), ((.int .u8 (IntKind.wrap .u8 (Int.fdiv a_0 (2 ^ (min (Int.toNat 24) (IntKind.bits .u64))))) : AV) = .int .u8 y9), (0 + 1 ≤ List.length ([.int .u8 y9] : List AV)), (0 < 1), (List.length ([.int .u8 y1, .int .u8 y3, .int .u8 y5, .int .u8 y7] : List AV) = 4), (List.all ([.int .u8 y9] : List AV) AV.one = true), (4 + 1 ≤ 4294967296), (true = true), ((0 : Int) ≤ 16), ((.int .u8 (IntKind.wrap .u8 (Int.fdiv a_0 (2 ^ (min (Int.toNat 16) (IntKind.bits .u64))))) : AV) = .int .u8 y11), (0 + 1 ≤ List.length ([.int .u8 y11] : List AV)), (0 < 1), (List.length ([.int .u8 y1, .int .u8 y3, .int .u8 y5, .int .u8 y7, .int .u8 y9] : List AV) = 5), (List.all ([.int .u8 y11] : List AV) AV.one = true), (5 + 1 ≤ 4294967296), (true = true), ((0 : Int) ≤ 8), ((.int .u8 (IntKind.wrap .u8 (Int.fdiv a_0 (2 ^ (min (Int.toNat 8) (IntKind.bits .u64))))) : AV) = .int .u8 y13), (0 + 1 ≤ List.length ([.int .u8 y13] : List AV)), (0 < 1), (List.length ([.int .u8 y1, .int .u8 y3, .int .u8 y5, .int .u8 y7, .int .u8 y9, .int .u8 y11] : List AV) = 6), (List.all ([.int .u8 y13] : List AV) AV.one = true), (6 + 1 ≤ 4294967296), (true = true), ((0 : Int) ≤ 0), ((.int .u8 (IntKind.wrap .u8 (Int.fdiv a_0 (2 ^ (min (Int.toNat 0) (IntKind.bits .u64))))) : AV) = .int .u8 y15), (0 + 1 ≤ List.length ([.int .u8 y15] : List AV)), (0 < 1), (List.length ([.int .u8 y1, .int .u8 y3, .int .u8 y5, .int .u8 y7, .int .u8 y9, .int .u8 y11, .int .u8 y13] : List AV) = 7), (List.all ([.int .u8 y15] : List AV) AV.one = true), (7 + 1 ≤ 4294967296), (false = false), (true = true), (true = true), ((0 : Int) ≤ 56), ((.int .u8 (IntKind.wrap .u8 (Int.fdiv b_1 (2 ^ (min (Int.toNat 56) (IntKind.bits .u64))))) : AV) = .int .u8 y17), (0 + 1 ≤ List.length ([.int .u8 y17] : List AV)), (0 < 1), (List.length ([.int .u8 y1, .int .u8 y3, .int .u8 y5, .int .u8 y7, .int .u8 y9, .int .u8 y11, .int .u8 y13, .int .u8 y15] : List AV) = 8), (List.all ([.int .u8 y17] : List AV) AV.one = true), (8 + 1 ≤ 4294967296), (true = true), ((0 : Int) ≤ 48), ((.int .u8 (IntKind.wrap .u8 (Int.fdiv b_1 (2 ^ (min (Int.toNat 48) (IntKind.bits .u64))))) : AV) = .int .u8 y19), (0 + 1 ≤ List.length ([.int .u8 y19] : List AV)), (0 < 1), (List.length ([.int .u8 y1, .int .u8 y3, .int .u8 y5, .int .u8 y7, .int .u8 y9, .int .u8 y11, .int .u8 y13, .int .u8 y15, .int .u8 y17] : List AV) = 9), (List.all ([.int .u8 y19] : List AV) AV.one = true), (9 + 1 ≤ 4294967296), (true = true), ((0 : Int) ≤ 40), ((.int .u8 (IntKind.wrap .u8 (Int.fdiv b_1 (2 ^ (min (Int.toNat 40) (IntKind.bits .u64))))) : AV) = .int .u8 y21), (0 + 1 ≤ List.length ([.int .u8 y21] : List AV)), (0 < 1), (List.length ([.int .u8 y1, .int .u8 y3, .int .u8 y5, .int .u8 y7, .int .u8 y9, .int .u8 y11, .int .u8 y13, .int .u8 y15, .int .u8 y17, .int .u8 y19] : List AV) = 10), (List.all ([.int .u8 y21] : List AV) AV.one = true), (10 + 1 ≤ 4294967296), (true = true), ((0 : Int) ≤ 32), ((.int .u8 (IntKind.wrap .u8 (Int.fdiv b_1 (2 ^ (min (Int.toNat 32) (IntKind.bits .u64))))) : AV) = .int .u8 y23), (0 + 1 ≤ List.length ([.int .u8 y23] : List AV)), (0 < 1), (List.length ([.int .u8 y1, .int .u8 y3, .int .u8 y5, .int .u8 y7, .int .u8 y9, .int .u8 y11, .int .u8 y13, .int .u8 y15, .int .u8 y17, .int .u8 y19, .int .u8 y21] : List AV) = 11), (List.all ([.int .u8 y23] : List AV) AV.one = true), (11 + 1 ≤ 4294967296), (true = true), ((0 : Int) ≤ 24), ((.int .u8 (IntKind.wrap .u8 (Int.fdiv b_1 (2 ^ (min (Int.toNat 24) (IntKind.bits .u64))))) : AV) = .int .u8 y25)]
theorem digest_Join_p3q (a_0 : Int) (b_1 : Int) (y1 : Int) (h2 : some (IntKind.wrap .u8 (Int.fdiv a_0 (2 ^ (min (Int.toNat 56) (IntKind.bits .u64))))) = some y1) (y3 : Int) (h4 : some (IntKind.wrap .u8 (Int.fdiv a_0 (2 ^ (min (Int.toNat 48) (IntKind.bits .u64))))) = some y3) (y5 : Int) (h6 : some (IntKind.wrap .u8 (Int.fdiv a_0 (2 ^ (min (Int.toNat 40) (IntKind.bits .u64))))) = some y5) (y7 : Int) (h8 : some (IntKind.wrap .u8 (Int.fdiv a_0 (2 ^ (min (Int.toNat 32) (IntKind.bits .u64))))) = some y7) (y9 : Int) (h10 : some (IntKind.wrap .u8 (Int.fdiv a_0 (2 ^ (min (Int.toNat 24) (IntKind.bits .u64))))) = some y9) (y11 : Int) (h12 : some (IntKind.wrap .u8 (Int.fdiv a_0 (2 ^ (min (Int.toNat 16) (IntKind.bits .u64))))) = some y11) (y13 : Int) (h14 : some (IntKind.wrap .u8 (Int.fdiv a_0 (2 ^ (min (Int.toNat 8) (IntKind.bits .u64))))) = some y13) (y15 : Int) (h16 : some (IntKind.wrap .u8 (Int.fdiv a_0 (2 ^ (min (Int.toNat 0) (IntKind.bits .u64))))) = some y15) (y17 : Int) (h18 : some (IntKind.wrap .u8 (Int.fdiv b_1 (2 ^ (min (Int.toNat 56) (IntKind.bits .u64))))) = some y17) (y19 : Int) (h20 : some (IntKind.wrap .u8 (Int.fdiv b_1 (2 ^ (min (Int.toNat 48) (IntKind.bits .u64))))) = some y19) (y21 : Int) (h22 : some (IntKind.wrap .u8 (Int.fdiv b_1 (2 ^ (min (Int.toNat 40) (IntKind.bits .u64))))) = some y21) (y23 : Int) (h24 : some (IntKind.wrap .u8 (Int.fdiv b_1 (2 ^ (min (Int.toNat 32) (IntKind.bits .u64))))) = some y23) (y25 : Int) (h26 : some (IntKind.wrap .u8 (Int.fdiv b_1 (2 ^ (min (Int.toNat 24) (IntKind.bits .u64))))) = some y25) : allOk (digest_Join_p3 a_0 b_1 y1 y3 y5 y7 y9 y11 y13 y15 y17 y19 y21 y23 y25) := ⟨rfl, rfl, (by decide), (congrArg _ (Option.some.inj h2)), (Nat.le_of_ble_eq_true rfl), (by decide), (by decide), rfl, (by decide), (congrArg _ (Option.some.inj h4)), (Nat.le_of_ble_eq_true rfl), (by decide), rfl, (by simp [AV.one]), (by decide), rfl, (by decide), (congrArg _ (Option.some.inj h6)), (Nat.le_of_ble_eq_true rfl), (by decide), rfl, (by simp [AV.one]), (by decide), rfl, (by decide), (congrArg _ (Option.some.inj h8)), (Nat.le_of_ble_eq_true rfl), (by decide), rfl, (by simp [AV.one]), (by decide), rfl, (by decide), (congrArg _ (Option.some.inj h10)), (Nat.le_of_ble_eq_true rfl), (by decide), rfl, (by simp [AV.one]), (by decide), rfl, (by decide), (congrArg _ (Option.some.inj h12)), (Nat.le_of_ble_eq_true rfl), (by decide), rfl, (by simp [AV.one]), (by decide), rfl, (by decide), (congrArg _ (Option.some.inj h14)), (Nat.le_of_ble_eq_true rfl), (by decide), rfl, (by simp [AV.one]), (by decide), rfl, (by decide), (congrArg _ (Option.some.inj h16)), (Nat.le_of_ble_eq_true rfl), (by decide), rfl, (by simp [AV.one]), (by decide), rfl, rfl, rfl, (by decide), (congrArg _ (Option.some.inj h18)), (Nat.le_of_ble_eq_true rfl), (by decide), rfl, (by simp [AV.one]), (by decide), rfl, (by decide), (congrArg _ (Option.some.inj h20)), (Nat.le_of_ble_eq_true rfl), (by decide), rfl, (by simp [AV.one]), (by decide), rfl, (by decide), (congrArg _ (Option.some.inj h22)), (Nat.le_of_ble_eq_true rfl), (by decide), rfl, (by simp [AV.one]), (by decide), rfl, (by decide), (congrArg _ (Option.some.inj h24)), (Nat.le_of_ble_eq_true rfl), (by decide), rfl, (by simp [AV.one]), (by decide), rfl, (by decide), ok1 (congrArg _ (Option.some.inj h26))⟩
theorem digest_Join_0 (a_0 : Int) (b_1 : Int) (y1 : Int) (h2 : some (IntKind.wrap .u8 (Int.fdiv a_0 (2 ^ (min (Int.toNat 56) (IntKind.bits .u64))))) = some y1) (y3 : Int) (h4 : some (IntKind.wrap .u8 (Int.fdiv a_0 (2 ^ (min (Int.toNat 48) (IntKind.bits .u64))))) = some y3) (y5 : Int) (h6 : some (IntKind.wrap .u8 (Int.fdiv a_0 (2 ^ (min (Int.toNat 40) (IntKind.bits .u64))))) = some y5) (y7 : Int) (h8 : some (IntKind.wrap .u8 (Int.fdiv a_0 (2 ^ (min (Int.toNat 32) (IntKind.bits .u64))))) = some y7) (y9 : Int) (h10 : some (IntKind.wrap .u8 (Int.fdiv a_0 (2 ^ (min (Int.toNat 24) (IntKind.bits .u64))))) = some y9) (y11 : Int) (h12 : some (IntKind.wrap .u8 (Int.fdiv a_0 (2 ^ (min (Int.toNat 16) (IntKind.bits .u64))))) = some y11) (y13 : Int) (h14 : some (IntKind.wrap .u8 (Int.fdiv a_0 (2 ^ (min (Int.toNat 8) (IntKind.bits .u64))))) = some y13) (y15 : Int) (h16 : some (IntKind.wrap .u8 (Int.fdiv a_0 (2 ^ (min (Int.toNat 0) (IntKind.bits .u64))))) = some y15) (y17 : Int) (h18 : some (IntKind.wrap .u8 (Int.fdiv b_1 (2 ^ (min (Int.toNat 56) (IntKind.bits .u64))))) = some y17) (y19 : Int) (h20 : some (IntKind.wrap .u8 (Int.fdiv b_1 (2 ^ (min (Int.toNat 48) (IntKind.bits .u64))))) = some y19) (y21 : Int) (h22 : some (IntKind.wrap .u8 (Int.fdiv b_1 (2 ^ (min (Int.toNat 40) (IntKind.bits .u64))))) = some y21) (y23 : Int) (h24 : some (IntKind.wrap .u8 (Int.fdiv b_1 (2 ^ (min (Int.toNat 32) (IntKind.bits .u64))))) = some y23) (y25 : Int) (h26 : some (IntKind.wrap .u8 (Int.fdiv b_1 (2 ^ (min (Int.toNat 24) (IntKind.bits .u64))))) = some y25) (y27 : Int) (h28 : some (IntKind.wrap .u8 (Int.fdiv b_1 (2 ^ (min (Int.toNat 16) (IntKind.bits .u64))))) = some y27) (y29 : Int) (h30 : some (IntKind.wrap .u8 (Int.fdiv b_1 (2 ^ (min (Int.toNat 8) (IntKind.bits .u64))))) = some y29) (y31 : Int) (h32 : some (IntKind.wrap .u8 (Int.fdiv b_1 (2 ^ (min (Int.toNat 0) (IntKind.bits .u64))))) = some y31) (h33 : InR .u8 (y1)) (h34 : InR .u8 (y3)) (h35 : InR .u8 (y5)) (h36 : InR .u8 (y7)) (h37 : InR .u8 (y9)) (h38 : InR .u8 (y11)) (h39 : InR .u8 (y13)) (h40 : InR .u8 (y15)) (h41 : InR .u8 (y17)) (h42 : InR .u8 (y19)) (h43 : InR .u8 (y21)) (h44 : InR .u8 (y23)) (h45 : InR .u8 (y25)) (h46 : InR .u8 (y27)) (h47 : InR .u8 (y29)) (h48 : InR .u8 (y31)) (r49 : Int) (h50 : digest_Hash ([(UInt8.ofNat (Int.toNat y1)), (UInt8.ofNat (Int.toNat y3)), (UInt8.ofNat (Int.toNat y5)), (UInt8.ofNat (Int.toNat y7)), (UInt8.ofNat (Int.toNat y9)), (UInt8.ofNat (Int.toNat y11)), (UInt8.ofNat (Int.toNat y13)), (UInt8.ofNat (Int.toNat y15)), (UInt8.ofNat (Int.toNat y17)), (UInt8.ofNat (Int.toNat y19)), (UInt8.ofNat (Int.toNat y21)), (UInt8.ofNat (Int.toNat y23)), (UInt8.ofNat (Int.toNat y25)), (UInt8.ofNat (Int.toNat y27)), (UInt8.ofNat (Int.toNat y29)), (UInt8.ofNat (Int.toNat y31))] : List UInt8) = some r49) : Ret Tryz.prog G0 124 [.int .u64 a_0, .int .u64 b_1] (.int .u64 r49) [] :=
  Ret.of_view 400 ((digest_Join_h1 y1 y3 y5 y7 y9) ++ ((digest_Join_h2 y11 y13 y15 y17 y19) ++ (cs 2 ((.op none .a) :: (.op none .a) :: (.tr (.eqt (.t 26) (.int .u8 y21))) :: (.op none .c) :: (.op none (.ap 3)) :: (cs 4 ((.br true) :: (cs 7 ((.op none .a) :: (.op none .a) :: (.tr (.eqt (.t 26) (.int .u8 y23))) :: (.op none .c) :: (.op none (.ap 3)) :: (cs 4 ((.br true) :: (cs 7 ((.op none .a) :: (.op none .a) :: (.tr (.eqt (.t 26) (.int .u8 y25))) :: (.op none .c) :: (.op none (.ap 3)) :: (cs 4 ((.br true) :: (cs 7 ((.op none .a) :: (.op none .a) :: (.tr (.eqt (.t 26) (.int .u8 y27))) :: (.op none .c) :: (.op none (.ap 3)) :: (cs 4 ((.br true) :: (cs 7 ((.op none .a) :: (.op none .a) :: (.tr (.eqt (.t 26) (.int .u8 y29))) :: (.op none .c) :: (.op none (.ap 3)) :: (cs 4 ((.br true) :: (cs 7 ((.op none .a) :: (.op none .a) :: (.tr (.eqt (.t 26) (.int .u8 y31))) :: (.op none .c) :: (.op none (.ap 3)) :: (cs 4 ((.br false) :: (cs 3 [.br false, .op none .c, .tr (.eqc 32 (u8s ([(UInt8.ofNat (Int.toNat y1)), (UInt8.ofNat (Int.toNat y3)), (UInt8.ofNat (Int.toNat y5)), (UInt8.ofNat (Int.toNat y7)), (UInt8.ofNat (Int.toNat y9)), (UInt8.ofNat (Int.toNat y11)), (UInt8.ofNat (Int.toNat y13)), (UInt8.ofNat (Int.toNat y15)), (UInt8.ofNat (Int.toNat y17)), (UInt8.ofNat (Int.toNat y19)), (UInt8.ofNat (Int.toNat y21)), (UInt8.ofNat (Int.toNat y23)), (UInt8.ofNat (Int.toNat y25)), (UInt8.ofNat (Int.toNat y27)), (UInt8.ofNat (Int.toNat y29)), (UInt8.ofNat (Int.toNat y31))] : List UInt8))), .ret none [.lst (u8s ([(UInt8.ofNat (Int.toNat y1)), (UInt8.ofNat (Int.toNat y3)), (UInt8.ofNat (Int.toNat y5)), (UInt8.ofNat (Int.toNat y7)), (UInt8.ofNat (Int.toNat y9)), (UInt8.ofNat (Int.toNat y11)), (UInt8.ofNat (Int.toNat y13)), (UInt8.ofNat (Int.toNat y15)), (UInt8.ofNat (Int.toNat y17)), (UInt8.ofNat (Int.toNat y19)), (UInt8.ofNat (Int.toNat y21)), (UInt8.ofNat (Int.toNat y23)), (UInt8.ofNat (Int.toNat y25)), (UInt8.ofNat (Int.toNat y27)), (UInt8.ofNat (Int.toNat y29)), (UInt8.ofNat (Int.toNat y31))] : List UInt8)) 16] (.int .u64 r49) [], .op none .c]))))))))))))))))))))))))))) [] (ps := ((digest_Join_p3 a_0 b_1 y1 y3 y5 y7 y9 y11 y13 y15 y17 y19 y21 y23 y25) ++ [(0 + 1 ≤ List.length ([.int .u8 y25] : List AV)), (0 < 1), (List.length ([.int .u8 y1, .int .u8 y3, .int .u8 y5, .int .u8 y7, .int .u8 y9, .int .u8 y11, .int .u8 y13, .int .u8 y15, .int .u8 y17, .int .u8 y19, .int .u8 y21, .int .u8 y23] : List AV) = 12), (List.all ([.int .u8 y25] : List AV) AV.one = true), (12 + 1 ≤ 4294967296), (true = true), ((0 : Int) ≤ 16), ((.int .u8 (IntKind.wrap .u8 (Int.fdiv b_1 (2 ^ (min (Int.toNat 16) (IntKind.bits .u64))))) : AV) = .int .u8 y27), (0 + 1 ≤ List.length ([.int .u8 y27] : List AV)), (0 < 1), (List.length ([.int .u8 y1, .int .u8 y3, .int .u8 y5, .int .u8 y7, .int .u8 y9, .int .u8 y11, .int .u8 y13, .int .u8 y15, .int .u8 y17, .int .u8 y19, .int .u8 y21, .int .u8 y23, .int .u8 y25] : List AV) = 13), (List.all ([.int .u8 y27] : List AV) AV.one = true), (13 + 1 ≤ 4294967296), (true = true), ((0 : Int) ≤ 8), ((.int .u8 (IntKind.wrap .u8 (Int.fdiv b_1 (2 ^ (min (Int.toNat 8) (IntKind.bits .u64))))) : AV) = .int .u8 y29), (0 + 1 ≤ List.length ([.int .u8 y29] : List AV)), (0 < 1), (List.length ([.int .u8 y1, .int .u8 y3, .int .u8 y5, .int .u8 y7, .int .u8 y9, .int .u8 y11, .int .u8 y13, .int .u8 y15, .int .u8 y17, .int .u8 y19, .int .u8 y21, .int .u8 y23, .int .u8 y25, .int .u8 y27] : List AV) = 14), (List.all ([.int .u8 y29] : List AV) AV.one = true), (14 + 1 ≤ 4294967296), (true = true), ((0 : Int) ≤ 0), ((.int .u8 (IntKind.wrap .u8 (Int.fdiv b_1 (2 ^ (min (Int.toNat 0) (IntKind.bits .u64))))) : AV) = .int .u8 y31), (0 + 1 ≤ List.length ([.int .u8 y31] : List AV)), (0 < 1), (List.length ([.int .u8 y1, .int .u8 y3, .int .u8 y5, .int .u8 y7, .int .u8 y9, .int .u8 y11, .int .u8 y13, .int .u8 y15, .int .u8 y17, .int .u8 y19, .int .u8 y21, .int .u8 y23, .int .u8 y25, .int .u8 y27, .int .u8 y29] : List AV) = 15), (List.all ([.int .u8 y31] : List AV) AV.one = true), (15 + 1 ≤ 4294967296), (false = false), (false = false), ([.int .u8 y1, .int .u8 y3, .int .u8 y5, .int .u8 y7, .int .u8 y9, .int .u8 y11, .int .u8 y13, .int .u8 y15, .int .u8 y17, .int .u8 y19, .int .u8 y21, .int .u8 y23, .int .u8 y25, .int .u8 y27, .int .u8 y29, .int .u8 y31] = (u8s ([(UInt8.ofNat (Int.toNat y1)), (UInt8.ofNat (Int.toNat y3)), (UInt8.ofNat (Int.toNat y5)), (UInt8.ofNat (Int.toNat y7)), (UInt8.ofNat (Int.toNat y9)), (UInt8.ofNat (Int.toNat y11)), (UInt8.ofNat (Int.toNat y13)), (UInt8.ofNat (Int.toNat y15)), (UInt8.ofNat (Int.toNat y17)), (UInt8.ofNat (Int.toNat y19)), (UInt8.ofNat (Int.toNat y21)), (UInt8.ofNat (Int.toNat y23)), (UInt8.ofNat (Int.toNat y25)), (UInt8.ofNat (Int.toNat y27)), (UInt8.ofNat (Int.toNat y29)), (UInt8.ofNat (Int.toNat y31))] : List UInt8))), (sub (u8s ([(UInt8.ofNat (Int.toNat y1)), (UInt8.ofNat (Int.toNat y3)), (UInt8.ofNat (Int.toNat y5)), (UInt8.ofNat (Int.toNat y7)), (UInt8.ofNat (Int.toNat y9)), (UInt8.ofNat (Int.toNat y11)), (UInt8.ofNat (Int.toNat y13)), (UInt8.ofNat (Int.toNat y15)), (UInt8.ofNat (Int.toNat y17)), (UInt8.ofNat (Int.toNat y19)), (UInt8.ofNat (Int.toNat y21)), (UInt8.ofNat (Int.toNat y23)), (UInt8.ofNat (Int.toNat y25)), (UInt8.ofNat (Int.toNat y27)), (UInt8.ofNat (Int.toNat y29)), (UInt8.ofNat (Int.toNat y31))] : List UInt8)) 0 16 = (u8s ([(UInt8.ofNat (Int.toNat y1)), (UInt8.ofNat (Int.toNat y3)), (UInt8.ofNat (Int.toNat y5)), (UInt8.ofNat (Int.toNat y7)), (UInt8.ofNat (Int.toNat y9)), (UInt8.ofNat (Int.toNat y11)), (UInt8.ofNat (Int.toNat y13)), (UInt8.ofNat (Int.toNat y15)), (UInt8.ofNat (Int.toNat y17)), (UInt8.ofNat (Int.toNat y19)), (UInt8.ofNat (Int.toNat y21)), (UInt8.ofNat (Int.toNat y23)), (UInt8.ofNat (Int.toNat y25)), (UInt8.ofNat (Int.toNat y27)), (UInt8.ofNat (Int.toNat y29)), (UInt8.ofNat (Int.toNat y31))] : List UInt8)) ∧ 16 = 16 ∧ 0 + 16 ≤ List.length ((u8s ([(UInt8.ofNat (Int.toNat y1)), (UInt8.ofNat (Int.toNat y3)), (UInt8.ofNat (Int.toNat y5)), (UInt8.ofNat (Int.toNat y7)), (UInt8.ofNat (Int.toNat y9)), (UInt8.ofNat (Int.toNat y11)), (UInt8.ofNat (Int.toNat y13)), (UInt8.ofNat (Int.toNat y15)), (UInt8.ofNat (Int.toNat y17)), (UInt8.ofNat (Int.toNat y19)), (UInt8.ofNat (Int.toNat y21)), (UInt8.ofNat (Int.toNat y23)), (UInt8.ofNat (Int.toNat y25)), (UInt8.ofNat (Int.toNat y27)), (UInt8.ofNat (Int.toNat y29)), (UInt8.ofNat (Int.toNat y31))] : List UInt8)) : List AV) ∧ 16 ≤ 16), (datBlks []), (Ret Tryz.prog G0 56 [.lst (u8s ([(UInt8.ofNat (Int.toNat y1)), (UInt8.ofNat (Int.toNat y3)), (UInt8.ofNat (Int.toNat y5)), (UInt8.ofNat (Int.toNat y7)), (UInt8.ofNat (Int.toNat y9)), (UInt8.ofNat (Int.toNat y11)), (UInt8.ofNat (Int.toNat y13)), (UInt8.ofNat (Int.toNat y15)), (UInt8.ofNat (Int.toNat y17)), (UInt8.ofNat (Int.toNat y19)), (UInt8.ofNat (Int.toNat y21)), (UInt8.ofNat (Int.toNat y23)), (UInt8.ofNat (Int.toNat y25)), (UInt8.ofNat (Int.toNat y27)), (UInt8.ofNat (Int.toNat y29)), (UInt8.ofNat (Int.toNat y31))] : List UInt8)) 16] (.int .u64 r49) [])])) (by kernel_rfl) (by kernel_rfl) (allOk_append.2 ⟨(digest_Join_p3q a_0 b_1 y1 h2 y3 h4 y5 h6 y7 h8 y9 h10 y11 h12 y13 h14 y15 h16 y17 h18 y19 h20 y21 h22 y23 h24 y25 h26), ⟨(Nat.le_of_ble_eq_true rfl), (by decide), rfl, (by simp [AV.one]), (by decide), rfl, (by decide), (congrArg _ (Option.some.inj h28)), (Nat.le_of_ble_eq_true rfl), (by decide), rfl, (by simp [AV.one]), (by decide), rfl, (by decide), (congrArg _ (Option.some.inj h30)), (Nat.le_of_ble_eq_true rfl), (by decide), rfl, (by simp [AV.one]), (by decide), rfl, (by decide), (congrArg _ (Option.some.inj h32)), (Nat.le_of_ble_eq_true rfl), (by decide), rfl, (by simp [AV.one]), (by decide), rfl, rfl, (by simp only [u8s, List.map, ← u8_of h33, ← u8_of h34, ← u8_of h35, ← u8_of h36, ← u8_of h37, ← u8_of h38, ← u8_of h39, ← u8_of h40, ← u8_of h41, ← u8_of h42, ← u8_of h43, ← u8_of h44, ← u8_of h45, ← u8_of h46, ← u8_of h47, ← u8_of h48]), ⟨rfl, rfl, Nat.le_of_ble_eq_true rfl, Nat.le_of_ble_eq_true rfl⟩, trivial, ok1 (digest_Hash_ret ([(UInt8.ofNat (Int.toNat y1)), (UInt8.ofNat (Int.toNat y3)), (UInt8.ofNat (Int.toNat y5)), (UInt8.ofNat (Int.toNat y7)), (UInt8.ofNat (Int.toNat y9)), (UInt8.ofNat (Int.toNat y11)), (UInt8.ofNat (Int.toNat y13)), (UInt8.ofNat (Int.toNat y15)), (UInt8.ofNat (Int.toNat y17)), (UInt8.ofNat (Int.toNat y19)), (UInt8.ofNat (Int.toNat y21)), (UInt8.ofNat (Int.toNat y23)), (UInt8.ofNat (Int.toNat y25)), (UInt8.ofNat (Int.toNat y27)), (UInt8.ofNat (Int.toNat y29)), (UInt8.ofNat (Int.toNat y31))] : List UInt8) r49 h50)⟩⟩)
theorem digest_Join_ret (a_0 : Int) (b_1 : Int) (r : Int) (h : digest_Join a_0 b_1 = some r) : Ret Tryz.prog G0 124 [.int .u64 a_0, .int .u64 b_1] (.int .u64 r) [] := by
  unfold digest_Join at h
  obtain ⟨y1, h2, h⟩ := bind_some h
  obtain ⟨y3, h4, h⟩ := bind_some h
  obtain ⟨y5, h6, h⟩ := bind_some h
  obtain ⟨y7, h8, h⟩ := bind_some h
  obtain ⟨y9, h10, h⟩ := bind_some h
  obtain ⟨y11, h12, h⟩ := bind_some h
  obtain ⟨y13, h14, h⟩ := bind_some h
  obtain ⟨y15, h16, h⟩ := bind_some h
  obtain ⟨y17, h18, h⟩ := bind_some h
  obtain ⟨y19, h20, h⟩ := bind_some h
  obtain ⟨y21, h22, h⟩ := bind_some h
  obtain ⟨y23, h24, h⟩ := bind_some h
  obtain ⟨y25, h26, h⟩ := bind_some h
  obtain ⟨y27, h28, h⟩ := bind_some h
  obtain ⟨y29, h30, h⟩ := bind_some h
  obtain ⟨y31, h32, h⟩ := bind_some h
  obtain ⟨h33, h⟩ := guard_some h
  obtain ⟨h34, h⟩ := guard_some h
  obtain ⟨h35, h⟩ := guard_some h
  obtain ⟨h36, h⟩ := guard_some h
  obtain ⟨h37, h⟩ := guard_some h
  obtain ⟨h38, h⟩ := guard_some h
  obtain ⟨h39, h⟩ := guard_some h
  obtain ⟨h40, h⟩ := guard_some h
  obtain ⟨h41, h⟩ := guard_some h
  obtain ⟨h42, h⟩ := guard_some h
  obtain ⟨h43, h⟩ := guard_some h
  obtain ⟨h44, h⟩ := guard_some h
  obtain ⟨h45, h⟩ := guard_some h
  obtain ⟨h46, h⟩ := guard_some h
  obtain ⟨h47, h⟩ := guard_some h
  obtain ⟨h48, h⟩ := guard_some h
  obtain ⟨r49, h50, h⟩ := bind_some h
  simp only [Option.some.injEq] at h
  subst h
  exact digest_Join_0 a_0 b_1 y1 h2 y3 h4 y5 h6 y7 h8 y9 h10 y11 h12 y13 h14 y15 h16 y17 h18 y19 h20 y21 h22 y23 h24 y25 h26 y27 h28 y29 h30 y31 h32 h33 h34 h35 h36 h37 h38 h39 h40 h41 h42 h43 h44 h45 h46 h47 h48 r49 h50
noncomputable def digest_above_L3_step (l_0 : (List Int)) : (Nat × (List Int)) → Option ((Nat × (List Int)) ⊕ (List Int))
  | (k9, b0) =>
    if (↑k9 : Int) < (Int.tdiv ((↑l_0.length : Int) + 1) 2) then
      if InR .i64 (2 * (↑k9 : Int)) then
        if InR .i64 ((2 * (↑k9 : Int)) + 1) then
          if ((2 * (↑k9 : Int)) + 1) = (↑l_0.length : Int) then
            if (0 : Int) ≤ (2 * (↑k9 : Int)) then
              (l_0[(Int.toNat (2 * (↑k9 : Int)))]?).bind fun x28 =>
              if b0.length + 1 ≤ 4294967296 then
                if InR .i64 ((↑k9 : Int) + 1) then
                  some (Sum.inl ((k9 + 1), (b0 ++ [x28])))
                else none
              else none
            else none
          else
            if (0 : Int) ≤ (2 * (↑k9 : Int)) then
              (l_0[(Int.toNat (2 * (↑k9 : Int)))]?).bind fun x33 =>
              if (0 : Int) ≤ ((2 * (↑k9 : Int)) + 1) then
                (l_0[(Int.toNat ((2 * (↑k9 : Int)) + 1))]?).bind fun x36 =>
                (digest_Join x33 x36).bind fun r38 =>
                if b0.length + 1 ≤ 4294967296 then
                  if InR .i64 ((↑k9 : Int) + 1) then
                    some (Sum.inl ((k9 + 1), (b0 ++ [r38])))
                  else none
                else none
              else none
            else none
        else none
      else none
    else
      some (Sum.inr b0)
def digest_above_L3_H (l_0 : (List Int)) : (Nat × (List Int)) → St := fun (s : (Nat × (List Int))) => S 43 [(0, .lst (fl e_u64 l_0) l_0.length), (3, .vec 0 s.2.length 1), (8, .int .i64 (Int.tdiv ((↑l_0.length : Int) + 1) 2)), (9, .int .i64 (↑s.1 : Int))] [(bV (fl e_u64 s.2) 41)]
theorem digest_above_L3_0 (l_0 : (List Int)) (k9 : Nat) (b0 : (List Int)) (c23 : (↑k9 : Int) < (Int.tdiv ((↑l_0.length : Int) + 1) 2)) (h24 : InR .i64 (2 * (↑k9 : Int))) (h25 : InR .i64 ((2 * (↑k9 : Int)) + 1)) (c26 : ((2 * (↑k9 : Int)) + 1) = (↑l_0.length : Int)) (h27 : (0 : Int) ≤ (2 * (↑k9 : Int))) (x28 : Int) (h29 : l_0[(Int.toNat (2 * (↑k9 : Int)))]? = some x28) (h30 : b0.length + 1 ≤ 4294967296) (h31 : InR .i64 ((↑k9 : Int) + 1)) : Does Tryz.prog G0 0 (bodyAt Tryz.prog 87 [1, 1, 0, 1, 0, 0]) (digest_above_L3_H l_0 (k9, b0)) .normal (S 43 [(0, .lst (fl e_u64 l_0) l_0.length), (3, .vec 0 ((b0 ++ [x28]).length) 1), (8, .int .i64 (Int.tdiv ((↑l_0.length : Int) + 1) 2)), (9, .int .i64 ((↑k9 : Int) + 1))] [(bV (fl e_u64 (b0 ++ [x28])) 41)]) :=
  Does.of_viewM 0 400 ((.op none .a) :: (.br true) :: (cs 3 ((.op none .w) :: (.op none .w) :: (cs 2 ((.op none .a) :: (.br true) :: (cs 3 [.op none .w, .op none (.i (Int.toNat (2 * (↑k9 : Int)))), .op none (.v [.int .u64 x28]), .op none .c, .op none (.ap 4), .tr (.eqc 2 (fl e_u64 (b0 ++ [x28]))), .tr (.eqt (.t 25) (.vec 2 ((b0 ++ [x28]).length) 1)), .op none .c, .op none .w, .op none .c])))))) [2] (ps := [((decide ((↑k9 : Int) < (Int.tdiv ((↑l_0.length : Int) + 1) 2))) = true), (IntKind.min .i64 ≤ (2 * (↑k9 : Int)) ∧ (2 * (↑k9 : Int)) ≤ IntKind.max .i64), (IntKind.min .i64 ≤ ((2 * (↑k9 : Int)) + 1) ∧ ((2 * (↑k9 : Int)) + 1) ≤ IntKind.max .i64), ((((2 * (↑k9 : Int)) + 1) == (↑l_0.length : Int)) = true), (IntKind.min .i64 ≤ (2 * (↑k9 : Int)) ∧ (2 * (↑k9 : Int)) ≤ IntKind.max .i64), ((2 * (↑k9 : Int)) = (((Int.toNat (2 * (↑k9 : Int))) : Nat) : Int) ∧ (Int.toNat (2 * (↑k9 : Int))) < l_0.length), ((fl e_u64 l_0) ≠ []), (sub (fl e_u64 l_0) (Int.toNat (2 * (↑k9 : Int))) 1 = [.int .u64 x28]), (0 + 1 ≤ List.length ([.int .u64 x28] : List AV)), (List.length ((fl e_u64 b0) : List AV) = b0.length), (List.all ([.int .u64 x28] : List AV) AV.one = true), (b0.length + 1 ≤ 4294967296), ((fl e_u64 b0) ++ [.int .u64 x28] = (fl e_u64 (b0 ++ [x28]))), ((.vec 2 (b0.length + 1) 1 : AV) = .vec 2 ((b0 ++ [x28]).length) 1), (IntKind.min .i64 ≤ ((↑k9 : Int) + 1) ∧ ((↑k9 : Int) + 1) ≤ IntKind.max .i64)]) (by kernel_rfl) (by kernel_rfl) ⟨(decide_eq_true c23), h24, h25, (beq_t c26), h24, ⟨(Int.toNat_of_nonneg h27).symm, get_lt h29⟩, (fl_ne (f := e_u64) (z := 0) (fun _ => rfl) h29), (fl_sub1 (f := e_u64) (fun _ => rfl) h29 rfl), (Nat.le_of_ble_eq_true rfl), (fl_length1 (f := e_u64) (fun _ => rfl) _), rfl, h30, (fl_snoc rfl), (by simp <;> omega), ok1 h31⟩
theorem digest_above_L3_1 (l_0 : (List Int)) (k9 : Nat) (b0 : (List Int)) (c23 : (↑k9 : Int) < (Int.tdiv ((↑l_0.length : Int) + 1) 2)) (h24 : InR .i64 (2 * (↑k9 : Int))) (h25 : InR .i64 ((2 * (↑k9 : Int)) + 1)) (c26 : ¬ (((2 * (↑k9 : Int)) + 1) = (↑l_0.length : Int))) (h32 : (0 : Int) ≤ (2 * (↑k9 : Int))) (x33 : Int) (h34 : l_0[(Int.toNat (2 * (↑k9 : Int)))]? = some x33) (h35 : (0 : Int) ≤ ((2 * (↑k9 : Int)) + 1)) (x36 : Int) (h37 : l_0[(Int.toNat ((2 * (↑k9 : Int)) + 1))]? = some x36) (r38 : Int) (h39 : digest_Join x33 x36 = some r38) (h40 : b0.length + 1 ≤ 4294967296) (h41 : InR .i64 ((↑k9 : Int) + 1)) : Does Tryz.prog G0 0 (bodyAt Tryz.prog 87 [1, 1, 0, 1, 0, 0]) (digest_above_L3_H l_0 (k9, b0)) .normal (S 43 [(0, .lst (fl e_u64 l_0) l_0.length), (3, .vec 0 ((b0 ++ [r38]).length) 1), (8, .int .i64 (Int.tdiv ((↑l_0.length : Int) + 1) 2)), (9, .int .i64 ((↑k9 : Int) + 1))] [(bV (fl e_u64 (b0 ++ [r38])) 41)]) :=
  Does.of_viewM 0 400 ((.op none .a) :: (.br true) :: (cs 3 ((.op none .w) :: (.op none .w) :: (cs 2 ((.op none .a) :: (.br false) :: (cs 3 ((.op none .w) :: (.op none (.i (Int.toNat (2 * (↑k9 : Int))))) :: (.op none (.v [.int .u64 x33])) :: (cs 2 [.op none .w, .op none .w, .op none (.i (Int.toNat ((2 * (↑k9 : Int)) + 1))), .op none (.v [.int .u64 x36]), .ret none [.int .u64 x33, .int .u64 x36] (.int .u64 r38) [], .op none .c, .op none (.ap 4), .trp (.eqc 2 (fl e_u64 (b0 ++ [r38]))), .trp (.eqt (.t 40) (.vec 2 ((b0 ++ [r38]).length) 1)), .op none .c, .op none .w, .op none .c])))))))) [2] (ps := [((decide ((↑k9 : Int) < (Int.tdiv ((↑l_0.length : Int) + 1) 2))) = true), (IntKind.min .i64 ≤ (2 * (↑k9 : Int)) ∧ (2 * (↑k9 : Int)) ≤ IntKind.max .i64), (IntKind.min .i64 ≤ ((2 * (↑k9 : Int)) + 1) ∧ ((2 * (↑k9 : Int)) + 1) ≤ IntKind.max .i64), ((((2 * (↑k9 : Int)) + 1) == (↑l_0.length : Int)) = false), (IntKind.min .i64 ≤ (2 * (↑k9 : Int)) ∧ (2 * (↑k9 : Int)) ≤ IntKind.max .i64), ((2 * (↑k9 : Int)) = (((Int.toNat (2 * (↑k9 : Int))) : Nat) : Int) ∧ (Int.toNat (2 * (↑k9 : Int))) < l_0.length), ((fl e_u64 l_0) ≠ []), (sub (fl e_u64 l_0) (Int.toNat (2 * (↑k9 : Int))) 1 = [.int .u64 x33]), (IntKind.min .i64 ≤ (2 * (↑k9 : Int)) ∧ (2 * (↑k9 : Int)) ≤ IntKind.max .i64), (IntKind.min .i64 ≤ ((2 * (↑k9 : Int)) + 1) ∧ ((2 * (↑k9 : Int)) + 1) ≤ IntKind.max .i64), (((2 * (↑k9 : Int)) + 1) = (((Int.toNat ((2 * (↑k9 : Int)) + 1)) : Nat) : Int) ∧ (Int.toNat ((2 * (↑k9 : Int)) + 1)) < l_0.length), ((fl e_u64 l_0) ≠ []), (sub (fl e_u64 l_0) (Int.toNat ((2 * (↑k9 : Int)) + 1)) 1 = [.int .u64 x36]), ((.int .u64 x33 : AV) = .int .u64 x33), ((.int .u64 x36 : AV) = .int .u64 x36), (Ret Tryz.prog G0 124 [.int .u64 x33, .int .u64 x36] (.int .u64 r38) []), (0 + 1 ≤ List.length ([.int .u64 r38] : List AV)), (List.length ((fl e_u64 b0) : List AV) = b0.length), (List.all ([.int .u64 r38] : List AV) AV.one = true), (b0.length + 1 ≤ 4294967296), ((fl e_u64 b0) ++ [.int .u64 r38] = (fl e_u64 (b0 ++ [r38]))), ((.vec 2 (b0.length + 1) 1 : AV) = .vec 2 ((b0 ++ [r38]).length) 1), ((some (Ob.blk (bT [.int .u64 r38] 41)) = some (Ob.blk (bT [.int .u64 r38] 41))) ∧ True), (IntKind.min .i64 ≤ ((↑k9 : Int) + 1) ∧ ((↑k9 : Int) + 1) ≤ IntKind.max .i64)]) (by kernel_rfl) (by kernel_rfl) ⟨(decide_eq_true c23), h24, h25, (beq_f c26), h24, ⟨(Int.toNat_of_nonneg h32).symm, get_lt h34⟩, (fl_ne (f := e_u64) (z := 0) (fun _ => rfl) h34), (fl_sub1 (f := e_u64) (fun _ => rfl) h34 rfl), h24, h25, ⟨(Int.toNat_of_nonneg h35).symm, get_lt h37⟩, (fl_ne (f := e_u64) (z := 0) (fun _ => rfl) h37), (fl_sub1 (f := e_u64) (fun _ => rfl) h37 rfl), rfl, rfl, (digest_Join_ret x33 x36 r38 h39), (Nat.le_of_ble_eq_true rfl), (fl_length1 (f := e_u64) (fun _ => rfl) _), rfl, h40, (fl_snoc rfl), (by simp <;> omega), ⟨rfl, trivial⟩, ok1 h41⟩
theorem digest_above_L3_2 (l_0 : (List Int)) (k9 : Nat) (b0 : (List Int)) (c23 : ¬ ((↑k9 : Int) < (Int.tdiv ((↑l_0.length : Int) + 1) 2))) : Does Tryz.prog G0 0 (bodyAt Tryz.prog 87 [1, 1, 0, 1, 0, 0]) (digest_above_L3_H l_0 (k9, b0)) (.exit 0) (S 43 [(3, .vec 0 b0.length 1)] [(bV (fl e_u64 b0) 41)]) :=
  Does.of_viewM 0 400 [.op none .a, .br false] [0] (ps := [((decide ((↑k9 : Int) < (Int.tdiv ((↑l_0.length : Int) + 1) 2))) = false)]) (by kernel_rfl) (by kernel_rfl) (ok1 (decide_eq_false c23))
def digest_above_L3_X (l_0 : (List Int)) : (List Int) → AEx := fun o => (.exit 0)
def digest_above_L3_E (l_0 : (List Int)) : (List Int) → St := fun o => S 43 [(3, .vec 0 o.length 1)] [(bV (fl e_u64 o) 41)]
theorem digest_above_L3_does (l_0 : (List Int)) {s : (Nat × (List Int))} {r : (List Int)} (h : lp (digest_above_L3_step l_0) s = some r) : Does Tryz.prog G0 0 (.loop (bodyAt Tryz.prog 87 [1, 1, 0, 1, 0, 0])) (digest_above_L3_H l_0 s) (digest_above_L3_X l_0 r) (digest_above_L3_E l_0 r) := by
  refine Does.lp (H := digest_above_L3_H l_0) (X := digest_above_L3_X l_0) (E := digest_above_L3_E l_0) (fun s s2 h => ?_) (fun s r h => ?_) h
  · obtain ⟨k9, b0⟩ := s
    unfold digest_above_L3_step at h
    try dsimp only at h
    rcases ite_some h with ⟨c23, h⟩ | ⟨c23, h⟩
    · obtain ⟨h24, h⟩ := guard_some h
      obtain ⟨h25, h⟩ := guard_some h
      rcases ite_some h with ⟨c26, h⟩ | ⟨c26, h⟩
      · obtain ⟨h27, h⟩ := guard_some h
        obtain ⟨x28, h29, h⟩ := bind_some h
        obtain ⟨h30, h⟩ := guard_some h
        obtain ⟨h31, h⟩ := guard_some h
        simp only [Option.some.injEq, Sum.inl.injEq] at h
        subst h
        have hq := digest_above_L3_0 l_0 k9 b0 c23 h24 h25 c26 h27 x28 h29 h30 h31
        first | exact hq | exact Eq.mp (by simp only [digest_above_L3_H, List.length_set] <;> rfl) hq
      · obtain ⟨h32, h⟩ := guard_some h
        obtain ⟨x33, h34, h⟩ := bind_some h
        obtain ⟨h35, h⟩ := guard_some h
        obtain ⟨x36, h37, h⟩ := bind_some h
        obtain ⟨r38, h39, h⟩ := bind_some h
        obtain ⟨h40, h⟩ := guard_some h
        obtain ⟨h41, h⟩ := guard_some h
        simp only [Option.some.injEq, Sum.inl.injEq] at h
        subst h
        have hq := digest_above_L3_1 l_0 k9 b0 c23 h24 h25 c26 h32 x33 h34 h35 x36 h37 r38 h39 h40 h41
        first | exact hq | exact Eq.mp (by simp only [digest_above_L3_H, List.length_set] <;> rfl) hq
    · simp at h
  · obtain ⟨k9, b0⟩ := s
    unfold digest_above_L3_step at h
    try dsimp only at h
    rcases ite_some h with ⟨c23, h⟩ | ⟨c23, h⟩
    · obtain ⟨h24, h⟩ := guard_some h
      obtain ⟨h25, h⟩ := guard_some h
      rcases ite_some h with ⟨c26, h⟩ | ⟨c26, h⟩
      · obtain ⟨h27, h⟩ := guard_some h
        obtain ⟨x28, h29, h⟩ := bind_some h
        obtain ⟨h30, h⟩ := guard_some h
        obtain ⟨h31, h⟩ := guard_some h
        simp at h
      · obtain ⟨h32, h⟩ := guard_some h
        obtain ⟨x33, h34, h⟩ := bind_some h
        obtain ⟨h35, h⟩ := guard_some h
        obtain ⟨x36, h37, h⟩ := bind_some h
        obtain ⟨r38, h39, h⟩ := bind_some h
        obtain ⟨h40, h⟩ := guard_some h
        obtain ⟨h41, h⟩ := guard_some h
        simp at h
    · simp only [Option.some.injEq, Sum.inr.injEq] at h
      subst h
      exact ⟨digest_above_L3_2 l_0 k9 b0 c23, by intro q; cases q⟩
noncomputable def digest_above (l_0 : (List Int)) : Option (List Int) :=
  if InR .i64 ((↑l_0.length : Int) + 1) then
    if InR .i64 (Int.tdiv ((↑l_0.length : Int) + 1) 2) then
      (lp (digest_above_L3_step l_0) ((0 : Nat), ([] : (List Int)))).bind fun o3 =>
      some o3
    else none
  else none
theorem digest_above_0 (l_0 : (List Int)) (h1 : InR .i64 ((↑l_0.length : Int) + 1)) (h2 : InR .i64 (Int.tdiv ((↑l_0.length : Int) + 1) 2)) (o3 : (List Int)) (hl3 : lp (digest_above_L3_step l_0) ((0 : Nat), ([] : (List Int))) = some o3) : Ret Tryz.prog G0 87 [.lst (fl e_u64 l_0) l_0.length] (.vec 0 o3.length 1) [(bV (fl e_u64 o3) 41)] :=
  Ret.of_view 400 (cs 4 ((.op none .w) :: (.op none .w) :: (.op none .c) :: (.tr (.vec (.t 3) 1 41)) :: (.fcut 0 (.exit 0) [(3, .vec 0 o3.length 1)] [(bV (fl e_u64 o3) 41)] [0] [(0, .lst (fl e_u64 l_0) l_0.length), (3, .vec 0 (([] : (List Int)).length) 1), (8, .int .i64 (Int.tdiv ((↑l_0.length : Int) + 1) 2)), (9, .int .i64 (↑(0 : Nat) : Int))] [(bV (fl e_u64 ([] : (List Int))) 41)]) :: (cs 2 []))) [1] (ps := [(IntKind.min .i64 ≤ ((↑l_0.length : Int) + 1) ∧ ((↑l_0.length : Int) + 1) ≤ IntKind.max .i64), (2 ≠ (0 : Int)), (IntKind.min .i64 ≤ (Int.tdiv ((↑l_0.length : Int) + 1) 2) ∧ (Int.tdiv ((↑l_0.length : Int) + 1) 2) ≤ IntKind.max .i64), ((.lst (fl e_u64 l_0) l_0.length : AV) = .lst (fl e_u64 l_0) l_0.length), ((.vec 0 0 1 : AV) = .vec 0 (([] : (List Int)).length) 1), ((.int .i64 (Int.tdiv ((↑l_0.length : Int) + 1) 2) : AV) = .int .i64 (Int.tdiv ((↑l_0.length : Int) + 1) 2)), ((.int .i64 0 : AV) = .int .i64 (↑(0 : Nat) : Int)), (((bV [] 41) : Blk) = renB [0] (bV (fl e_u64 ([] : (List Int))) 41)), (Does Tryz.prog G0 0 (.loop (bodyAt Tryz.prog 87 [1, 1, 0, 1, 0, 0])) (S 43 [(0, .lst (fl e_u64 l_0) l_0.length), (3, .vec 0 (([] : (List Int)).length) 1), (8, .int .i64 (Int.tdiv ((↑l_0.length : Int) + 1) 2)), (9, .int .i64 (↑(0 : Nat) : Int))] [(bV (fl e_u64 ([] : (List Int))) 41)]) (.exit 0) (S 43 [(3, .vec 0 o3.length 1)] [(bV (fl e_u64 o3) 41)]))]) (by kernel_rfl) (by kernel_rfl) ⟨h1, (by decide), h2, rfl, (by first | rfl | simp only [List.length_replicate, List.length_set]), rfl, rfl, rfl, ok1 (digest_above_L3_does l_0 (s := ((0 : Nat), ([] : (List Int)))) (r := o3) hl3)⟩
theorem digest_above_ret (l_0 : (List Int)) (r : (List Int)) (h : digest_above l_0 = some r) : Ret Tryz.prog G0 87 [.lst (fl e_u64 l_0) l_0.length] (.vec 0 r.length 1) [(bV (fl e_u64 r) 41)] := by
  unfold digest_above at h
  obtain ⟨h1, h⟩ := guard_some h
  obtain ⟨h2, h⟩ := guard_some h
  obtain ⟨o3, hl3, h⟩ := bind_some h
  simp only [Option.some.injEq] at h
  subst h
  exact digest_above_0 l_0 h1 h2 o3 hl3
noncomputable def digest_levels_L1_step  : ((List Int) × (List (List Int))) → Option (((List Int) × (List (List Int))) ⊕ (List (List Int)))
  | (v0, b0) =>
    if (↑v0.length : Int) > (1 : Int) then
      (digest_above v0).bind fun r7 =>
      if b0.length + 1 ≤ 4294967296 then
        some (Sum.inl (r7, (b0 ++ [r7])))
      else none
    else
      some (Sum.inr b0)
def digest_levels_L1_H  : ((List Int) × (List (List Int))) → St := fun (s : ((List Int) × (List (List Int)))) => S 16 [(0, .lst (fl e_u64 s.1) s.1.length), (3, .vec 0 s.2.length 1)] [(bV (fl (e_lst e_u64) s.2) 26)]
theorem digest_levels_L1_0  (v0 : (List Int)) (b0 : (List (List Int))) (c6 : (↑v0.length : Int) > (1 : Int)) (r7 : (List Int)) (h8 : digest_above v0 = some r7) (h9 : b0.length + 1 ≤ 4294967296) : Does Tryz.prog G0 0 (bodyAt Tryz.prog 61 [1, 1, 0, 0, 0]) (digest_levels_L1_H  (v0, b0)) .normal (S 16 [(0, .lst (fl e_u64 r7) r7.length), (3, .vec 0 ((b0 ++ [r7]).length) 1)] [(bV (fl (e_lst e_u64) (b0 ++ [r7])) 26)]) :=
  Does.of_viewM 0 400 (cs 2 ((.op none .a) :: (.br true) :: (.op none .c) :: (.ret none [.lst (fl e_u64 v0) v0.length] (.vec 0 r7.length 1) [(bV (fl e_u64 r7) 41)]) :: (cs 3 [.tr (.frz [.t 0, .t 10, .t 12] (fl e_u64 r7) r7.length), .op none .c, .op none (.ap 4), .tr (.eqc 3 (fl (e_lst e_u64) (b0 ++ [r7]))), .tr (.eqt (.t 14) (.vec 3 ((b0 ++ [r7]).length) 1)), .op none .c]))) [3] (ps := [((decide ((↑v0.length : Int) > (1 : Int))) = true), ((.lst (fl e_u64 v0) v0.length : AV) = .lst (fl e_u64 v0) v0.length), (Ret Tryz.prog G0 87 [.lst (fl e_u64 v0) v0.length] (.vec 0 r7.length 1) [(bV (fl e_u64 r7) 41)]), (1 = 1 ∧ (fl e_u64 r7) = (fl e_u64 r7) ∧ r7.length = r7.length ∧ List.length ((fl e_u64 r7) : List AV) = r7.length), (1 = 1 ∧ (fl e_u64 r7) = (fl e_u64 r7) ∧ r7.length = r7.length ∧ List.length ((fl e_u64 r7) : List AV) = r7.length), (1 = 1 ∧ (fl e_u64 r7) = (fl e_u64 r7) ∧ r7.length = r7.length ∧ List.length ((fl e_u64 r7) : List AV) = r7.length), (0 + 1 ≤ List.length ([.lst (fl e_u64 r7) r7.length] : List AV)), (List.length ((fl (e_lst e_u64) b0) : List AV) = b0.length), (List.all ([.lst (fl e_u64 r7) r7.length] : List AV) AV.one = true), (b0.length + 1 ≤ 4294967296), ((fl (e_lst e_u64) b0) ++ [.lst (fl e_u64 r7) r7.length] = (fl (e_lst e_u64) (b0 ++ [r7]))), ((.vec 3 (b0.length + 1) 1 : AV) = .vec 3 ((b0 ++ [r7]).length) 1)]) (by kernel_rfl) (by kernel_rfl) ⟨(decide_eq_true c6), rfl, (digest_above_ret v0 r7 h8), ⟨rfl, rfl, rfl, (fl_length1 (f := e_u64) (fun _ => rfl) _)⟩, ⟨rfl, rfl, rfl, (fl_length1 (f := e_u64) (fun _ => rfl) _)⟩, ⟨rfl, rfl, rfl, (fl_length1 (f := e_u64) (fun _ => rfl) _)⟩, (Nat.le_of_ble_eq_true rfl), (fl_length1 (f := (e_lst e_u64)) (fun _ => rfl) _), rfl, h9, (fl_snoc rfl), ok1 (by simp <;> omega)⟩
theorem digest_levels_L1_1  (v0 : (List Int)) (b0 : (List (List Int))) (c6 : ¬ ((↑v0.length : Int) > (1 : Int))) : Does Tryz.prog G0 0 (bodyAt Tryz.prog 61 [1, 1, 0, 0, 0]) (digest_levels_L1_H  (v0, b0)) (.exit 0) (S 16 [(3, .vec 0 b0.length 1)] [(bV (fl (e_lst e_u64) b0) 26)]) :=
  Does.of_viewM 0 400 (cs 2 [.op none .a, .br false]) [0] (ps := [((decide ((↑v0.length : Int) > (1 : Int))) = false)]) (by kernel_rfl) (by kernel_rfl) (ok1 (decide_eq_false c6))
def digest_levels_L1_X  : (List (List Int)) → AEx := fun o => (.exit 0)
def digest_levels_L1_E  : (List (List Int)) → St := fun o => S 16 [(3, .vec 0 o.length 1)] [(bV (fl (e_lst e_u64) o) 26)]
theorem digest_levels_L1_does  {s : ((List Int) × (List (List Int)))} {r : (List (List Int))} (h : lp (digest_levels_L1_step ) s = some r) : Does Tryz.prog G0 0 (.loop (bodyAt Tryz.prog 61 [1, 1, 0, 0, 0])) (digest_levels_L1_H  s) (digest_levels_L1_X  r) (digest_levels_L1_E  r) := by
  refine Does.lp (H := digest_levels_L1_H ) (X := digest_levels_L1_X ) (E := digest_levels_L1_E ) (fun s s2 h => ?_) (fun s r h => ?_) h
  · obtain ⟨v0, b0⟩ := s
    unfold digest_levels_L1_step at h
    try dsimp only at h
    rcases ite_some h with ⟨c6, h⟩ | ⟨c6, h⟩
    · obtain ⟨r7, h8, h⟩ := bind_some h
      obtain ⟨h9, h⟩ := guard_some h
      simp only [Option.some.injEq, Sum.inl.injEq] at h
      subst h
      have hq := digest_levels_L1_0 v0 b0 c6 r7 h8 h9
      first | exact hq | exact Eq.mp (by simp only [digest_levels_L1_H, List.length_set] <;> rfl) hq
    · simp at h
  · obtain ⟨v0, b0⟩ := s
    unfold digest_levels_L1_step at h
    try dsimp only at h
    rcases ite_some h with ⟨c6, h⟩ | ⟨c6, h⟩
    · obtain ⟨r7, h8, h⟩ := bind_some h
      obtain ⟨h9, h⟩ := guard_some h
      simp at h
    · simp only [Option.some.injEq, Sum.inr.injEq] at h
      subst h
      exact ⟨digest_levels_L1_1 v0 b0 c6, by intro q; cases q⟩
noncomputable def digest_levels (l_0 : (List Int)) : Option (List (List Int)) :=
  (lp (digest_levels_L1_step) (l_0, ([l_0] : (List (List Int))))).bind fun o1 =>
  some o1
theorem digest_levels_0 (l_0 : (List Int)) (o1 : (List (List Int))) (hl1 : lp (digest_levels_L1_step) (l_0, ([l_0] : (List (List Int)))) = some o1) : Ret Tryz.prog G0 61 [.lst (fl e_u64 l_0) l_0.length] (.vec 0 o1.length 1) [(bV (fl (e_lst e_u64) o1) 26)] :=
  Ret.of_view 400 (cs 4 ((.tr (.wid (.t 3))) :: (.fcut 0 (.exit 0) [(3, .vec 0 o1.length 1)] [(bV (fl (e_lst e_u64) o1) 26)] [0] [(0, .lst (fl e_u64 l_0) l_0.length), (3, .vec 0 (([l_0] : (List (List Int))).length) 1)] [(bV (fl (e_lst e_u64) ([l_0] : (List (List Int)))) 26)]) :: (cs 2 []))) [1] (ps := [(1 ≤ 1), ((.lst (fl e_u64 l_0) l_0.length : AV) = .lst (fl e_u64 l_0) l_0.length), ((.vec 0 1 1 : AV) = .vec 0 (([l_0] : (List (List Int))).length) 1), (((bV [.lst (fl e_u64 l_0) l_0.length] 26) : Blk) = renB [0] (bV (fl (e_lst e_u64) ([l_0] : (List (List Int)))) 26)), (Does Tryz.prog G0 0 (.loop (bodyAt Tryz.prog 61 [1, 1, 0, 0, 0])) (S 16 [(0, .lst (fl e_u64 l_0) l_0.length), (3, .vec 0 (([l_0] : (List (List Int))).length) 1)] [(bV (fl (e_lst e_u64) ([l_0] : (List (List Int)))) 26)]) (.exit 0) (S 16 [(3, .vec 0 o1.length 1)] [(bV (fl (e_lst e_u64) o1) 26)]))]) (by kernel_rfl) (by kernel_rfl) ⟨(Nat.le_refl _), rfl, (by first | rfl | simp only [List.length_replicate, List.length_set]), rfl, ok1 (digest_levels_L1_does (s := (l_0, ([l_0] : (List (List Int))))) (r := o1) hl1)⟩
theorem digest_levels_ret (l_0 : (List Int)) (r : (List (List Int))) (h : digest_levels l_0 = some r) : Ret Tryz.prog G0 61 [.lst (fl e_u64 l_0) l_0.length] (.vec 0 r.length 1) [(bV (fl (e_lst e_u64) r) 26)] := by
  unfold digest_levels at h
  obtain ⟨o1, hl1, h⟩ := bind_some h
  simp only [Option.some.injEq] at h
  subst h
  exact digest_levels_0 l_0 o1 hl1
noncomputable def digest_Differ_L287_step (r3 : (List (List Int))) (r5 : (List (List Int))) (v12 : Int) (v13 : Int) (b2 : (List Int)) (v69 : Int) (b3 : (List Int)) (x277 : Int) : (Int × Int × (List Int)) → Option ((Int × Int × (List Int)) ⊕ (Int × (List Int)))
  | (v12, v17, b3) =>
    if InR .i64 (2 * x277) then
      if InR .i64 ((2 * x277) + 1) then
        if v17 ≤ ((2 * x277) + 1) then
          if InR .i64 (v12 + 1) then
            if (0 : Int) ≤ v13 then
              (r3[(Int.toNat v13)]?).bind fun x311 =>
              if (0 : Int) ≤ v17 then
                (x311[(Int.toNat v17)]?).bind fun x314 =>
                (r5[(Int.toNat v13)]?).bind fun x316 =>
                (x316[(Int.toNat v17)]?).bind fun x318 =>
                if x314 = x318 then
                  if InR .i64 (v17 + 1) then
                    some (Sum.inl ((v12 + 1), (v17 + 1), b3))
                  else none
                else
                  if b3.length + 1 ≤ 4294967296 then
                    if InR .i64 (v17 + 1) then
                      some (Sum.inl ((v12 + 1), (v17 + 1), (b3 ++ [v17])))
                    else none
                  else none
              else none
            else none
          else none
        else
          some (Sum.inr (v12, b3))
      else none
    else none
def digest_Differ_L287_H (r3 : (List (List Int))) (r5 : (List (List Int))) (v12 : Int) (v13 : Int) (b2 : (List Int)) (v69 : Int) (b3 : (List Int)) (x277 : Int) : (Int × Int × (List Int)) → St := fun (s : (Int × Int × (List Int))) => S 121 [(8, .vec 0 r3.length 1), (9, .vec 1 r5.length 1), (12, .int .i64 s.1), (13, .int .i64 v13), (14, .vec 3 s.2.2.length 1), (16, .int .i64 x277), (17, .int .i64 s.2.1), (67, .vec 2 b2.length 1), (68, .int .i64 (↑b2.length : Int)), (69, .int .i64 v69)] [(bV (fl (e_lst e_u64) r3) 26), (bV (fl (e_lst e_u64) r5) 26), (bV (fl e_i64 b2) 3), (bV (fl e_i64 s.2.2) 3)]
theorem digest_Differ_L287_0 (r3 : (List (List Int))) (r5 : (List (List Int))) (v12 : Int) (v13 : Int) (b2 : (List Int)) (v69 : Int) (b3 : (List Int)) (x277 : Int) (v12 : Int) (v17 : Int) (b3 : (List Int)) (h306 : InR .i64 (2 * x277)) (h307 : InR .i64 ((2 * x277) + 1)) (c308 : v17 ≤ ((2 * x277) + 1)) (h309 : InR .i64 (v12 + 1)) (h310 : (0 : Int) ≤ v13) (x311 : (List Int)) (h312 : r3[(Int.toNat v13)]? = some x311) (h313 : (0 : Int) ≤ v17) (x314 : Int) (h315 : x311[(Int.toNat v17)]? = some x314) (x316 : (List Int)) (h317 : r5[(Int.toNat v13)]? = some x316) (x318 : Int) (h319 : x316[(Int.toNat v17)]? = some x318) (c320 : x314 = x318) (h321 : InR .i64 (v17 + 1)) : Does Tryz.prog G0 3 (bodyAt Tryz.prog 35 [1, 1, 1, 1, 1, 1, 1, 0, 1, 0, 0, 1, 0, 0, 1, 0, 1, 0, 0, 1, 1, 0, 0, 1, 1, 1, 0, 0]) (digest_Differ_L287_H r3 r5 v12 v13 b2 v69 b3 x277 (v12, v17, b3)) .normal (S 121 [(8, .vec 0 r3.length 1), (9, .vec 1 r5.length 1), (12, .int .i64 (v12 + 1)), (13, .int .i64 v13), (14, .vec 3 b3.length 1), (16, .int .i64 x277), (17, .int .i64 (v17 + 1)), (67, .vec 2 b2.length 1), (68, .int .i64 (↑b2.length : Int)), (69, .int .i64 v69)] [(bV (fl (e_lst e_u64) r3) 26), (bV (fl (e_lst e_u64) r5) 26), (bV (fl e_i64 b2) 3), (bV (fl e_i64 b3) 3)]) :=
  Does.of_viewM 3 400 (cs 2 ((.op none .w) :: (.op none .w) :: (.op none .a) :: (.br true) :: (.op none .c) :: (.op none .w) :: (cs 3 ((.op none (.i (Int.toNat v13))) :: (.op none (.v [.lst (fl e_u64 x311) x311.length])) :: (.op none .c) :: (.op none (.i (Int.toNat v17))) :: (.op none (.v [.int .u64 x314])) :: (cs 2 [.op none (.i (Int.toNat v13)), .op none (.v [.lst (fl e_u64 x316) x316.length]), .op none .c, .op none (.i (Int.toNat v17)), .op none (.v [.int .u64 x318]), .op none .a, .br false, .op none .c, .op none .w, .op none .c]))))) [0, 1, 2, 3] (ps := [(IntKind.min .i64 ≤ (2 * x277) ∧ (2 * x277) ≤ IntKind.max .i64), (IntKind.min .i64 ≤ ((2 * x277) + 1) ∧ ((2 * x277) + 1) ≤ IntKind.max .i64), ((decide (v17 ≤ ((2 * x277) + 1))) = true), (IntKind.min .i64 ≤ (v12 + 1) ∧ (v12 + 1) ≤ IntKind.max .i64), (v13 = (((Int.toNat v13) : Nat) : Int) ∧ (Int.toNat v13) < r3.length), (sub (fl (e_lst e_u64) r3) (Int.toNat v13) 1 = [.lst (fl e_u64 x311) x311.length]), (v17 = (((Int.toNat v17) : Nat) : Int) ∧ (Int.toNat v17) < x311.length), ((fl e_u64 x311) ≠ []), (sub (fl e_u64 x311) (Int.toNat v17) 1 = [.int .u64 x314]), (v13 = (((Int.toNat v13) : Nat) : Int) ∧ (Int.toNat v13) < r5.length), (sub (fl (e_lst e_u64) r5) (Int.toNat v13) 1 = [.lst (fl e_u64 x316) x316.length]), (v17 = (((Int.toNat v17) : Nat) : Int) ∧ (Int.toNat v17) < x316.length), ((fl e_u64 x316) ≠ []), (sub (fl e_u64 x316) (Int.toNat v17) 1 = [.int .u64 x318]), ((!(x314 == x318)) = false), (IntKind.min .i64 ≤ (v17 + 1) ∧ (v17 + 1) ≤ IntKind.max .i64)]) (by kernel_rfl) (by kernel_rfl) ⟨h306, h307, (decide_eq_true c308), h309, ⟨(Int.toNat_of_nonneg h310).symm, get_lt h312⟩, (fl_sub1 (f := (e_lst e_u64)) (fun _ => rfl) h312 rfl), ⟨(Int.toNat_of_nonneg h313).symm, get_lt h315⟩, (fl_ne (f := e_u64) (z := 0) (fun _ => rfl) h315), (fl_sub1 (f := e_u64) (fun _ => rfl) h315 rfl), ⟨(Int.toNat_of_nonneg h310).symm, get_lt h317⟩, (fl_sub1 (f := (e_lst e_u64)) (fun _ => rfl) h317 rfl), ⟨(Int.toNat_of_nonneg h313).symm, get_lt h319⟩, (fl_ne (f := e_u64) (z := 0) (fun _ => rfl) h319), (fl_sub1 (f := e_u64) (fun _ => rfl) h319 rfl), (not_f (beq_t c320)), ok1 h321⟩
theorem digest_Differ_L287_1 (r3 : (List (List Int))) (r5 : (List (List Int))) (v12 : Int) (v13 : Int) (b2 : (List Int)) (v69 : Int) (b3 : (List Int)) (x277 : Int) (v12 : Int) (v17 : Int) (b3 : (List Int)) (h306 : InR .i64 (2 * x277)) (h307 : InR .i64 ((2 * x277) + 1)) (c308 : v17 ≤ ((2 * x277) + 1)) (h309 : InR .i64 (v12 + 1)) (h310 : (0 : Int) ≤ v13) (x311 : (List Int)) (h312 : r3[(Int.toNat v13)]? = some x311) (h313 : (0 : Int) ≤ v17) (x314 : Int) (h315 : x311[(Int.toNat v17)]? = some x314) (x316 : (List Int)) (h317 : r5[(Int.toNat v13)]? = some x316) (x318 : Int) (h319 : x316[(Int.toNat v17)]? = some x318) (c320 : ¬ (x314 = x318)) (h322 : b3.length + 1 ≤ 4294967296) (h323 : InR .i64 (v17 + 1)) : Does Tryz.prog G0 3 (bodyAt Tryz.prog 35 [1, 1, 1, 1, 1, 1, 1, 0, 1, 0, 0, 1, 0, 0, 1, 0, 1, 0, 0, 1, 1, 0, 0, 1, 1, 1, 0, 0]) (digest_Differ_L287_H r3 r5 v12 v13 b2 v69 b3 x277 (v12, v17, b3)) .normal (S 121 [(8, .vec 0 r3.length 1), (9, .vec 1 r5.length 1), (12, .int .i64 (v12 + 1)), (13, .int .i64 v13), (14, .vec 3 ((b3 ++ [v17]).length) 1), (16, .int .i64 x277), (17, .int .i64 (v17 + 1)), (67, .vec 2 b2.length 1), (68, .int .i64 (↑b2.length : Int)), (69, .int .i64 v69)] [(bV (fl (e_lst e_u64) r3) 26), (bV (fl (e_lst e_u64) r5) 26), (bV (fl e_i64 b2) 3), (bV (fl e_i64 (b3 ++ [v17])) 3)]) :=
  Does.of_viewM 3 400 (cs 2 ((.op none .w) :: (.op none .w) :: (.op none .a) :: (.br true) :: (.op none .c) :: (.op none .w) :: (cs 3 ((.op none (.i (Int.toNat v13))) :: (.op none (.v [.lst (fl e_u64 x311) x311.length])) :: (.op none .c) :: (.op none (.i (Int.toNat v17))) :: (.op none (.v [.int .u64 x314])) :: (cs 2 ((.op none (.i (Int.toNat v13))) :: (.op none (.v [.lst (fl e_u64 x316) x316.length])) :: (.op none .c) :: (.op none (.i (Int.toNat v17))) :: (.op none (.v [.int .u64 x318])) :: (.op none .a) :: (.br true) :: (cs 3 ((.op none (.ap 4)) :: (.tr (.eqc 5 (fl e_i64 (b3 ++ [v17])))) :: (.tr (.eqt (.t 116) (.vec 5 ((b3 ++ [v17]).length) 1))) :: (cs 2 [.op none .w, .op none .c]))))))))) [0, 1, 2, 5] (ps := [(IntKind.min .i64 ≤ (2 * x277) ∧ (2 * x277) ≤ IntKind.max .i64), (IntKind.min .i64 ≤ ((2 * x277) + 1) ∧ ((2 * x277) + 1) ≤ IntKind.max .i64), ((decide (v17 ≤ ((2 * x277) + 1))) = true), (IntKind.min .i64 ≤ (v12 + 1) ∧ (v12 + 1) ≤ IntKind.max .i64), (v13 = (((Int.toNat v13) : Nat) : Int) ∧ (Int.toNat v13) < r3.length), (sub (fl (e_lst e_u64) r3) (Int.toNat v13) 1 = [.lst (fl e_u64 x311) x311.length]), (v17 = (((Int.toNat v17) : Nat) : Int) ∧ (Int.toNat v17) < x311.length), ((fl e_u64 x311) ≠ []), (sub (fl e_u64 x311) (Int.toNat v17) 1 = [.int .u64 x314]), (v13 = (((Int.toNat v13) : Nat) : Int) ∧ (Int.toNat v13) < r5.length), (sub (fl (e_lst e_u64) r5) (Int.toNat v13) 1 = [.lst (fl e_u64 x316) x316.length]), (v17 = (((Int.toNat v17) : Nat) : Int) ∧ (Int.toNat v17) < x316.length), ((fl e_u64 x316) ≠ []), (sub (fl e_u64 x316) (Int.toNat v17) 1 = [.int .u64 x318]), ((!(x314 == x318)) = true), (0 + 1 ≤ List.length ([.int .i64 v17] : List AV)), (List.length ((fl e_i64 b3) : List AV) = b3.length), (List.all ([.int .i64 v17] : List AV) AV.one = true), (b3.length + 1 ≤ 4294967296), ((fl e_i64 b3) ++ [.int .i64 v17] = (fl e_i64 (b3 ++ [v17]))), ((.vec 5 (b3.length + 1) 1 : AV) = .vec 5 ((b3 ++ [v17]).length) 1), (IntKind.min .i64 ≤ (v17 + 1) ∧ (v17 + 1) ≤ IntKind.max .i64)]) (by kernel_rfl) (by kernel_rfl) ⟨h306, h307, (decide_eq_true c308), h309, ⟨(Int.toNat_of_nonneg h310).symm, get_lt h312⟩, (fl_sub1 (f := (e_lst e_u64)) (fun _ => rfl) h312 rfl), ⟨(Int.toNat_of_nonneg h313).symm, get_lt h315⟩, (fl_ne (f := e_u64) (z := 0) (fun _ => rfl) h315), (fl_sub1 (f := e_u64) (fun _ => rfl) h315 rfl), ⟨(Int.toNat_of_nonneg h310).symm, get_lt h317⟩, (fl_sub1 (f := (e_lst e_u64)) (fun _ => rfl) h317 rfl), ⟨(Int.toNat_of_nonneg h313).symm, get_lt h319⟩, (fl_ne (f := e_u64) (z := 0) (fun _ => rfl) h319), (fl_sub1 (f := e_u64) (fun _ => rfl) h319 rfl), (not_t (beq_f c320)), (Nat.le_of_ble_eq_true rfl), (fl_length1 (f := e_i64) (fun _ => rfl) _), rfl, h322, (fl_snoc rfl), (by simp <;> omega), ok1 h323⟩
theorem digest_Differ_L287_2 (r3 : (List (List Int))) (r5 : (List (List Int))) (v12 : Int) (v13 : Int) (b2 : (List Int)) (v69 : Int) (b3 : (List Int)) (x277 : Int) (v12 : Int) (v17 : Int) (b3 : (List Int)) (h306 : InR .i64 (2 * x277)) (h307 : InR .i64 ((2 * x277) + 1)) (c308 : ¬ (v17 ≤ ((2 * x277) + 1))) : Does Tryz.prog G0 3 (bodyAt Tryz.prog 35 [1, 1, 1, 1, 1, 1, 1, 0, 1, 0, 0, 1, 0, 0, 1, 0, 1, 0, 0, 1, 1, 0, 0, 1, 1, 1, 0, 0]) (digest_Differ_L287_H r3 r5 v12 v13 b2 v69 b3 x277 (v12, v17, b3)) (.exit 6) (S 121 [(8, .vec 0 r3.length 1), (9, .vec 1 r5.length 1), (12, .int .i64 v12), (13, .int .i64 v13), (14, .vec 3 b3.length 1), (67, .vec 2 b2.length 1), (68, .int .i64 (↑b2.length : Int)), (69, .int .i64 v69)] [(bV (fl (e_lst e_u64) r3) 26), (bV (fl (e_lst e_u64) r5) 26), (bV (fl e_i64 b2) 3), (bV (fl e_i64 b3) 3)]) :=
  Does.of_viewM 3 400 (cs 2 [.op none .w, .op none .w, .op none .a, .br false]) [0, 1, 2, 3] (ps := [(IntKind.min .i64 ≤ (2 * x277) ∧ (2 * x277) ≤ IntKind.max .i64), (IntKind.min .i64 ≤ ((2 * x277) + 1) ∧ ((2 * x277) + 1) ≤ IntKind.max .i64), ((decide (v17 ≤ ((2 * x277) + 1))) = false)]) (by kernel_rfl) (by kernel_rfl) ⟨h306, h307, ok1 (decide_eq_false c308)⟩
def digest_Differ_L287_X (r3 : (List (List Int))) (r5 : (List (List Int))) (v12 : Int) (v13 : Int) (b2 : (List Int)) (v69 : Int) (b3 : (List Int)) (x277 : Int) : (Int × (List Int)) → AEx := fun o => (.exit 6)
def digest_Differ_L287_E (r3 : (List (List Int))) (r5 : (List (List Int))) (v12 : Int) (v13 : Int) (b2 : (List Int)) (v69 : Int) (b3 : (List Int)) (x277 : Int) : (Int × (List Int)) → St := fun o => S 121 [(8, .vec 0 r3.length 1), (9, .vec 1 r5.length 1), (12, .int .i64 o.1), (13, .int .i64 v13), (14, .vec 3 o.2.length 1), (67, .vec 2 b2.length 1), (68, .int .i64 (↑b2.length : Int)), (69, .int .i64 v69)] [(bV (fl (e_lst e_u64) r3) 26), (bV (fl (e_lst e_u64) r5) 26), (bV (fl e_i64 b2) 3), (bV (fl e_i64 o.2) 3)]
theorem digest_Differ_L287_does (r3 : (List (List Int))) (r5 : (List (List Int))) (v12 : Int) (v13 : Int) (b2 : (List Int)) (v69 : Int) (b3 : (List Int)) (x277 : Int) {s : (Int × Int × (List Int))} {r : (Int × (List Int))} (h : lp (digest_Differ_L287_step r3 r5 v12 v13 b2 v69 b3 x277) s = some r) : Does Tryz.prog G0 3 (.loop (bodyAt Tryz.prog 35 [1, 1, 1, 1, 1, 1, 1, 0, 1, 0, 0, 1, 0, 0, 1, 0, 1, 0, 0, 1, 1, 0, 0, 1, 1, 1, 0, 0])) (digest_Differ_L287_H r3 r5 v12 v13 b2 v69 b3 x277 s) (digest_Differ_L287_X r3 r5 v12 v13 b2 v69 b3 x277 r) (digest_Differ_L287_E r3 r5 v12 v13 b2 v69 b3 x277 r) := by
  refine Does.lp (H := digest_Differ_L287_H r3 r5 v12 v13 b2 v69 b3 x277) (X := digest_Differ_L287_X r3 r5 v12 v13 b2 v69 b3 x277) (E := digest_Differ_L287_E r3 r5 v12 v13 b2 v69 b3 x277) (fun s s2 h => ?_) (fun s r h => ?_) h
  · obtain ⟨v12, v17, b3⟩ := s
    unfold digest_Differ_L287_step at h
    try dsimp only at h
    obtain ⟨h306, h⟩ := guard_some h
    obtain ⟨h307, h⟩ := guard_some h
    rcases ite_some h with ⟨c308, h⟩ | ⟨c308, h⟩
    · obtain ⟨h309, h⟩ := guard_some h
      obtain ⟨h310, h⟩ := guard_some h
      obtain ⟨x311, h312, h⟩ := bind_some h
      obtain ⟨h313, h⟩ := guard_some h
      obtain ⟨x314, h315, h⟩ := bind_some h
      obtain ⟨x316, h317, h⟩ := bind_some h
      obtain ⟨x318, h319, h⟩ := bind_some h
      rcases ite_some h with ⟨c320, h⟩ | ⟨c320, h⟩
      · obtain ⟨h321, h⟩ := guard_some h
        simp only [Option.some.injEq, Sum.inl.injEq] at h
        subst h
        have hq := digest_Differ_L287_0 r3 r5 v12 v13 b2 v69 b3 x277 v12 v17 b3 h306 h307 c308 h309 h310 x311 h312 h313 x314 h315 x316 h317 x318 h319 c320 h321
        first | exact hq | exact Eq.mp (by simp only [digest_Differ_L287_H, List.length_set] <;> rfl) hq
      · obtain ⟨h322, h⟩ := guard_some h
        obtain ⟨h323, h⟩ := guard_some h
        simp only [Option.some.injEq, Sum.inl.injEq] at h
        subst h
        have hq := digest_Differ_L287_1 r3 r5 v12 v13 b2 v69 b3 x277 v12 v17 b3 h306 h307 c308 h309 h310 x311 h312 h313 x314 h315 x316 h317 x318 h319 c320 h322 h323
        first | exact hq | exact Eq.mp (by simp only [digest_Differ_L287_H, List.length_set] <;> rfl) hq
    · simp at h
  · obtain ⟨v12, v17, b3⟩ := s
    unfold digest_Differ_L287_step at h
    try dsimp only at h
    obtain ⟨h306, h⟩ := guard_some h
    obtain ⟨h307, h⟩ := guard_some h
    rcases ite_some h with ⟨c308, h⟩ | ⟨c308, h⟩
    · obtain ⟨h309, h⟩ := guard_some h
      obtain ⟨h310, h⟩ := guard_some h
      obtain ⟨x311, h312, h⟩ := bind_some h
      obtain ⟨h313, h⟩ := guard_some h
      obtain ⟨x314, h315, h⟩ := bind_some h
      obtain ⟨x316, h317, h⟩ := bind_some h
      obtain ⟨x318, h319, h⟩ := bind_some h
      rcases ite_some h with ⟨c320, h⟩ | ⟨c320, h⟩
      · obtain ⟨h321, h⟩ := guard_some h
        simp at h
      · obtain ⟨h322, h⟩ := guard_some h
        obtain ⟨h323, h⟩ := guard_some h
        simp at h
    · simp only [Option.some.injEq, Sum.inr.injEq] at h
      subst h
      exact ⟨digest_Differ_L287_2 r3 r5 v12 v13 b2 v69 b3 x277 v12 v17 b3 h306 h307 c308, by intro q; cases q⟩
noncomputable def digest_Differ_L174_step (r3 : (List (List Int))) (r5 : (List (List Int))) (v12 : Int) (v13 : Int) (b2 : (List Int)) : (Int × Int × (List Int) × (List Int)) → Option ((Int × Int × (List Int) × (List Int)) ⊕ (Int × (List Int) × (List Int)))
  | (v12, v69, b2, b3) =>
    if v69 < (↑b2.length : Int) then
      if (0 : Int) ≤ v69 then
        (b2[(Int.toNat v69)]?).bind fun x277 =>
        if InR .i64 (2 * x277) then
          if InR .i64 ((2 * x277) + 1) then
            if (0 : Int) ≤ v13 then
              (r3[(Int.toNat v13)]?).bind fun x282 =>
              if ((2 * x277) + 1) = (↑x282.length : Int) then
                if b3.length + 1 ≤ 4294967296 then
                  if InR .i64 (v69 + 1) then
                    some (Sum.inl (v12, (v69 + 1), b2, (b3 ++ [(2 * x277)])))
                  else none
                else none
              else
                (lp (digest_Differ_L287_step r3 r5 v12 v13 b2 v69 b3 x277) (v12, (2 * x277), b3)).bind fun o287 =>
                if InR .i64 (v69 + 1) then
                  some (Sum.inl (o287.1, (v69 + 1), b2, o287.2))
                else none
            else none
          else none
        else none
      else none
    else
      some (Sum.inr (v12, b2, b3))
def digest_Differ_L174_H (r3 : (List (List Int))) (r5 : (List (List Int))) (v12 : Int) (v13 : Int) (b2 : (List Int)) : (Int × Int × (List Int) × (List Int)) → St := fun (s : (Int × Int × (List Int) × (List Int))) => S 121 [(8, .vec 0 r3.length 1), (9, .vec 1 r5.length 1), (12, .int .i64 s.1), (13, .int .i64 v13), (14, .vec 3 s.2.2.2.length 1), (67, .vec 2 s.2.2.1.length 1), (68, .int .i64 (↑s.2.2.1.length : Int)), (69, .int .i64 s.2.1)] [(bV (fl (e_lst e_u64) r3) 26), (bV (fl (e_lst e_u64) r5) 26), (bV (fl e_i64 s.2.2.1) 3), (bV (fl e_i64 s.2.2.2) 3)]
theorem digest_Differ_L174_0 (r3 : (List (List Int))) (r5 : (List (List Int))) (v12 : Int) (v13 : Int) (b2 : (List Int)) (v12 : Int) (v69 : Int) (b2 : (List Int)) (b3 : (List Int)) (c275 : v69 < (↑b2.length : Int)) (h276 : (0 : Int) ≤ v69) (x277 : Int) (h278 : b2[(Int.toNat v69)]? = some x277) (h279 : InR .i64 (2 * x277)) (h280 : InR .i64 ((2 * x277) + 1)) (h281 : (0 : Int) ≤ v13) (x282 : (List Int)) (h283 : r3[(Int.toNat v13)]? = some x282) (c284 : ((2 * x277) + 1) = (↑x282.length : Int)) (h285 : b3.length + 1 ≤ 4294967296) (h286 : InR .i64 (v69 + 1)) : Does Tryz.prog G0 3 (bodyAt Tryz.prog 35 [1, 1, 1, 1, 1, 1, 1, 0, 1, 0, 0, 1, 0, 0, 1, 0, 1, 0, 0]) (digest_Differ_L174_H r3 r5 v12 v13 b2 (v12, v69, b2, b3)) .normal (S 121 [(8, .vec 0 r3.length 1), (9, .vec 1 r5.length 1), (12, .int .i64 v12), (13, .int .i64 v13), (14, .vec 3 ((b3 ++ [(2 * x277)]).length) 1), (67, .vec 2 b2.length 1), (68, .int .i64 (↑b2.length : Int)), (69, .int .i64 (v69 + 1))] [(bV (fl (e_lst e_u64) r3) 26), (bV (fl (e_lst e_u64) r5) 26), (bV (fl e_i64 b2) 3), (bV (fl e_i64 (b3 ++ [(2 * x277)])) 3)]) :=
  Does.of_viewM 3 400 ((.op none .a) :: (.br true) :: (.op none (.i (Int.toNat v69))) :: (.op none (.v [.int .i64 x277])) :: (cs 2 ((.op none .w) :: (.op none .w) :: (cs 2 ((.op none (.i (Int.toNat v13))) :: (.op none (.v [.lst (fl e_u64 x282) x282.length])) :: (.op none .c) :: (.op none .a) :: (.br true) :: (cs 2 [.op none .w, .op none .c, .op none (.ap 4), .tr (.eqc 5 (fl e_i64 (b3 ++ [(2 * x277)]))), .tr (.eqt (.t 86) (.vec 5 ((b3 ++ [(2 * x277)]).length) 1)), .op none .c, .op none .w, .op none .c])))))) [0, 1, 2, 5] (ps := [((decide (v69 < (↑b2.length : Int))) = true), (v69 = (((Int.toNat v69) : Nat) : Int) ∧ (Int.toNat v69) < b2.length), (sub (fl e_i64 b2) (Int.toNat v69) 1 = [.int .i64 x277]), (IntKind.min .i64 ≤ (2 * x277) ∧ (2 * x277) ≤ IntKind.max .i64), (IntKind.min .i64 ≤ ((2 * x277) + 1) ∧ ((2 * x277) + 1) ≤ IntKind.max .i64), (v13 = (((Int.toNat v13) : Nat) : Int) ∧ (Int.toNat v13) < r3.length), (sub (fl (e_lst e_u64) r3) (Int.toNat v13) 1 = [.lst (fl e_u64 x282) x282.length]), ((((2 * x277) + 1) == (↑x282.length : Int)) = true), (IntKind.min .i64 ≤ (2 * x277) ∧ (2 * x277) ≤ IntKind.max .i64), (0 + 1 ≤ List.length ([.int .i64 (2 * x277)] : List AV)), (List.length ((fl e_i64 b3) : List AV) = b3.length), (List.all ([.int .i64 (2 * x277)] : List AV) AV.one = true), (b3.length + 1 ≤ 4294967296), ((fl e_i64 b3) ++ [.int .i64 (2 * x277)] = (fl e_i64 (b3 ++ [(2 * x277)]))), ((.vec 5 (b3.length + 1) 1 : AV) = .vec 5 ((b3 ++ [(2 * x277)]).length) 1), (IntKind.min .i64 ≤ (v69 + 1) ∧ (v69 + 1) ≤ IntKind.max .i64)]) (by kernel_rfl) (by kernel_rfl) ⟨(decide_eq_true c275), ⟨(Int.toNat_of_nonneg h276).symm, get_lt h278⟩, (fl_sub1 (f := e_i64) (fun _ => rfl) h278 rfl), h279, h280, ⟨(Int.toNat_of_nonneg h281).symm, get_lt h283⟩, (fl_sub1 (f := (e_lst e_u64)) (fun _ => rfl) h283 rfl), (beq_t c284), h279, (Nat.le_of_ble_eq_true rfl), (fl_length1 (f := e_i64) (fun _ => rfl) _), rfl, h285, (fl_snoc rfl), (by simp <;> omega), ok1 h286⟩
theorem digest_Differ_L174_1 (r3 : (List (List Int))) (r5 : (List (List Int))) (v12 : Int) (v13 : Int) (b2 : (List Int)) (v12 : Int) (v69 : Int) (b2 : (List Int)) (b3 : (List Int)) (c275 : v69 < (↑b2.length : Int)) (h276 : (0 : Int) ≤ v69) (x277 : Int) (h278 : b2[(Int.toNat v69)]? = some x277) (h279 : InR .i64 (2 * x277)) (h280 : InR .i64 ((2 * x277) + 1)) (h281 : (0 : Int) ≤ v13) (x282 : (List Int)) (h283 : r3[(Int.toNat v13)]? = some x282) (c284 : ¬ (((2 * x277) + 1) = (↑x282.length : Int))) (o287 : (Int × (List Int))) (hl287 : lp (digest_Differ_L287_step r3 r5 v12 v13 b2 v69 b3 x277) (v12, (2 * x277), b3) = some o287) (h324 : InR .i64 (v69 + 1)) : Does Tryz.prog G0 3 (bodyAt Tryz.prog 35 [1, 1, 1, 1, 1, 1, 1, 0, 1, 0, 0, 1, 0, 0, 1, 0, 1, 0, 0]) (digest_Differ_L174_H r3 r5 v12 v13 b2 (v12, v69, b2, b3)) .normal (S 121 [(8, .vec 0 r3.length 1), (9, .vec 1 r5.length 1), (12, .int .i64 o287.1), (13, .int .i64 v13), (14, .vec 3 o287.2.length 1), (67, .vec 2 b2.length 1), (68, .int .i64 (↑b2.length : Int)), (69, .int .i64 (v69 + 1))] [(bV (fl (e_lst e_u64) r3) 26), (bV (fl (e_lst e_u64) r5) 26), (bV (fl e_i64 b2) 3), (bV (fl e_i64 o287.2) 3)]) :=
  Does.of_viewM 3 400 ((.op none .a) :: (.br true) :: (.op none (.i (Int.toNat v69))) :: (.op none (.v [.int .i64 x277])) :: (cs 2 ((.op none .w) :: (.op none .w) :: (cs 2 [.op none (.i (Int.toNat v13)), .op none (.v [.lst (fl e_u64 x282) x282.length]), .op none .c, .op none .a, .br false, .op none .c, .op none .w, .op none .c, .fcut 3 (.exit 6) [(8, .vec 0 r3.length 1), (9, .vec 1 r5.length 1), (12, .int .i64 o287.1), (13, .int .i64 v13), (14, .vec 3 o287.2.length 1), (67, .vec 2 b2.length 1), (68, .int .i64 (↑b2.length : Int)), (69, .int .i64 v69)] [(bV (fl (e_lst e_u64) r3) 26), (bV (fl (e_lst e_u64) r5) 26), (bV (fl e_i64 b2) 3), (bV (fl e_i64 o287.2) 3)] [0, 1, 2, 3] [(8, .vec 0 r3.length 1), (9, .vec 1 r5.length 1), (12, .int .i64 v12), (13, .int .i64 v13), (14, .vec 3 b3.length 1), (16, .int .i64 x277), (17, .int .i64 (2 * x277)), (67, .vec 2 b2.length 1), (68, .int .i64 (↑b2.length : Int)), (69, .int .i64 v69)] [(bV (fl (e_lst e_u64) r3) 26), (bV (fl (e_lst e_u64) r5) 26), (bV (fl e_i64 b2) 3), (bV (fl e_i64 b3) 3)], .op none .w, .op none .c])))) [0, 1, 2, 7] (ps := [((decide (v69 < (↑b2.length : Int))) = true), (v69 = (((Int.toNat v69) : Nat) : Int) ∧ (Int.toNat v69) < b2.length), (sub (fl e_i64 b2) (Int.toNat v69) 1 = [.int .i64 x277]), (IntKind.min .i64 ≤ (2 * x277) ∧ (2 * x277) ≤ IntKind.max .i64), (IntKind.min .i64 ≤ ((2 * x277) + 1) ∧ ((2 * x277) + 1) ≤ IntKind.max .i64), (v13 = (((Int.toNat v13) : Nat) : Int) ∧ (Int.toNat v13) < r3.length), (sub (fl (e_lst e_u64) r3) (Int.toNat v13) 1 = [.lst (fl e_u64 x282) x282.length]), ((((2 * x277) + 1) == (↑x282.length : Int)) = false), (IntKind.min .i64 ≤ (2 * x277) ∧ (2 * x277) ≤ IntKind.max .i64), ((.vec 0 r3.length 1 : AV) = .vec 0 r3.length 1), ((.vec 1 r5.length 1 : AV) = .vec 1 r5.length 1), ((.int .i64 v12 : AV) = .int .i64 v12), ((.int .i64 v13 : AV) = .int .i64 v13), ((.vec 3 b3.length 1 : AV) = .vec 3 b3.length 1), ((.int .i64 x277 : AV) = .int .i64 x277), ((.int .i64 (2 * x277) : AV) = .int .i64 (2 * x277)), ((.vec 2 b2.length 1 : AV) = .vec 2 b2.length 1), ((.int .i64 (↑b2.length : Int) : AV) = .int .i64 (↑b2.length : Int)), ((.int .i64 v69 : AV) = .int .i64 v69), (((bV (fl (e_lst e_u64) r3) 26) : Blk) = renB [0, 1, 2, 3] (bV (fl (e_lst e_u64) r3) 26)), (((bV (fl (e_lst e_u64) r5) 26) : Blk) = renB [0, 1, 2, 3] (bV (fl (e_lst e_u64) r5) 26)), (((bV (fl e_i64 b2) 3) : Blk) = renB [0, 1, 2, 3] (bV (fl e_i64 b2) 3)), (((bV (fl e_i64 b3) 3) : Blk) = renB [0, 1, 2, 3] (bV (fl e_i64 b3) 3)), (Does Tryz.prog G0 3 (.loop (bodyAt Tryz.prog 35 [1, 1, 1, 1, 1, 1, 1, 0, 1, 0, 0, 1, 0, 0, 1, 0, 1, 0, 0, 1, 1, 0, 0, 1, 1, 1, 0, 0])) (S 121 [(8, .vec 0 r3.length 1), (9, .vec 1 r5.length 1), (12, .int .i64 v12), (13, .int .i64 v13), (14, .vec 3 b3.length 1), (16, .int .i64 x277), (17, .int .i64 (2 * x277)), (67, .vec 2 b2.length 1), (68, .int .i64 (↑b2.length : Int)), (69, .int .i64 v69)] [(bV (fl (e_lst e_u64) r3) 26), (bV (fl (e_lst e_u64) r5) 26), (bV (fl e_i64 b2) 3), (bV (fl e_i64 b3) 3)]) (.exit 6) (S 121 [(8, .vec 0 r3.length 1), (9, .vec 1 r5.length 1), (12, .int .i64 o287.1), (13, .int .i64 v13), (14, .vec 3 o287.2.length 1), (67, .vec 2 b2.length 1), (68, .int .i64 (↑b2.length : Int)), (69, .int .i64 v69)] [(bV (fl (e_lst e_u64) r3) 26), (bV (fl (e_lst e_u64) r5) 26), (bV (fl e_i64 b2) 3), (bV (fl e_i64 o287.2) 3)])), (IntKind.min .i64 ≤ (v69 + 1) ∧ (v69 + 1) ≤ IntKind.max .i64)]) (by kernel_rfl) (by kernel_rfl) ⟨(decide_eq_true c275), ⟨(Int.toNat_of_nonneg h276).symm, get_lt h278⟩, (fl_sub1 (f := e_i64) (fun _ => rfl) h278 rfl), h279, h280, ⟨(Int.toNat_of_nonneg h281).symm, get_lt h283⟩, (fl_sub1 (f := (e_lst e_u64)) (fun _ => rfl) h283 rfl), (beq_f c284), h279, rfl, rfl, rfl, rfl, rfl, rfl, rfl, rfl, rfl, rfl, rfl, rfl, rfl, rfl, (digest_Differ_L287_does r3 r5 v12 v13 b2 v69 b3 x277 (s := (v12, (2 * x277), b3)) (r := o287) hl287), ok1 h324⟩
theorem digest_Differ_L174_2 (r3 : (List (List Int))) (r5 : (List (List Int))) (v12 : Int) (v13 : Int) (b2 : (List Int)) (v12 : Int) (v69 : Int) (b2 : (List Int)) (b3 : (List Int)) (c275 : ¬ (v69 < (↑b2.length : Int))) : Does Tryz.prog G0 3 (bodyAt Tryz.prog 35 [1, 1, 1, 1, 1, 1, 1, 0, 1, 0, 0, 1, 0, 0, 1, 0, 1, 0, 0]) (digest_Differ_L174_H r3 r5 v12 v13 b2 (v12, v69, b2, b3)) (.exit 4) (S 121 [(8, .vec 0 r3.length 1), (9, .vec 1 r5.length 1), (12, .int .i64 v12), (13, .int .i64 v13), (14, .vec 3 b3.length 1)] [(bV (fl (e_lst e_u64) r3) 26), (bV (fl (e_lst e_u64) r5) 26), (bV (fl e_i64 b2) 3), (bV (fl e_i64 b3) 3)]) :=
  Does.of_viewM 3 400 [.op none .a, .br false] [0, 1, 2, 3] (ps := [((decide (v69 < (↑b2.length : Int))) = false)]) (by kernel_rfl) (by kernel_rfl) (ok1 (decide_eq_false c275))
def digest_Differ_L174_X (r3 : (List (List Int))) (r5 : (List (List Int))) (v12 : Int) (v13 : Int) (b2 : (List Int)) : (Int × (List Int) × (List Int)) → AEx := fun o => (.exit 4)
def digest_Differ_L174_E (r3 : (List (List Int))) (r5 : (List (List Int))) (v12 : Int) (v13 : Int) (b2 : (List Int)) : (Int × (List Int) × (List Int)) → St := fun o => S 121 [(8, .vec 0 r3.length 1), (9, .vec 1 r5.length 1), (12, .int .i64 o.1), (13, .int .i64 v13), (14, .vec 3 o.2.2.length 1)] [(bV (fl (e_lst e_u64) r3) 26), (bV (fl (e_lst e_u64) r5) 26), (bV (fl e_i64 o.2.1) 3), (bV (fl e_i64 o.2.2) 3)]
theorem digest_Differ_L174_does (r3 : (List (List Int))) (r5 : (List (List Int))) (v12 : Int) (v13 : Int) (b2 : (List Int)) {s : (Int × Int × (List Int) × (List Int))} {r : (Int × (List Int) × (List Int))} (h : lp (digest_Differ_L174_step r3 r5 v12 v13 b2) s = some r) : Does Tryz.prog G0 3 (.loop (bodyAt Tryz.prog 35 [1, 1, 1, 1, 1, 1, 1, 0, 1, 0, 0, 1, 0, 0, 1, 0, 1, 0, 0])) (digest_Differ_L174_H r3 r5 v12 v13 b2 s) (digest_Differ_L174_X r3 r5 v12 v13 b2 r) (digest_Differ_L174_E r3 r5 v12 v13 b2 r) := by
  refine Does.lp (H := digest_Differ_L174_H r3 r5 v12 v13 b2) (X := digest_Differ_L174_X r3 r5 v12 v13 b2) (E := digest_Differ_L174_E r3 r5 v12 v13 b2) (fun s s2 h => ?_) (fun s r h => ?_) h
  · obtain ⟨v12, v69, b2, b3⟩ := s
    unfold digest_Differ_L174_step at h
    try dsimp only at h
    rcases ite_some h with ⟨c275, h⟩ | ⟨c275, h⟩
    · obtain ⟨h276, h⟩ := guard_some h
      obtain ⟨x277, h278, h⟩ := bind_some h
      obtain ⟨h279, h⟩ := guard_some h
      obtain ⟨h280, h⟩ := guard_some h
      obtain ⟨h281, h⟩ := guard_some h
      obtain ⟨x282, h283, h⟩ := bind_some h
      rcases ite_some h with ⟨c284, h⟩ | ⟨c284, h⟩
      · obtain ⟨h285, h⟩ := guard_some h
        obtain ⟨h286, h⟩ := guard_some h
        simp only [Option.some.injEq, Sum.inl.injEq] at h
        subst h
        have hq := digest_Differ_L174_0 r3 r5 v12 v13 b2 v12 v69 b2 b3 c275 h276 x277 h278 h279 h280 h281 x282 h283 c284 h285 h286
        first | exact hq | exact Eq.mp (by simp only [digest_Differ_L174_H, List.length_set] <;> rfl) hq
      · obtain ⟨o287, hl287, h⟩ := bind_some h
        obtain ⟨h324, h⟩ := guard_some h
        simp only [Option.some.injEq, Sum.inl.injEq] at h
        subst h
        have hq := digest_Differ_L174_1 r3 r5 v12 v13 b2 v12 v69 b2 b3 c275 h276 x277 h278 h279 h280 h281 x282 h283 c284 o287 hl287 h324
        first | exact hq | exact Eq.mp (by simp only [digest_Differ_L174_H, List.length_set] <;> rfl) hq
    · simp at h
  · obtain ⟨v12, v69, b2, b3⟩ := s
    unfold digest_Differ_L174_step at h
    try dsimp only at h
    rcases ite_some h with ⟨c275, h⟩ | ⟨c275, h⟩
    · obtain ⟨h276, h⟩ := guard_some h
      obtain ⟨x277, h278, h⟩ := bind_some h
      obtain ⟨h279, h⟩ := guard_some h
      obtain ⟨h280, h⟩ := guard_some h
      obtain ⟨h281, h⟩ := guard_some h
      obtain ⟨x282, h283, h⟩ := bind_some h
      rcases ite_some h with ⟨c284, h⟩ | ⟨c284, h⟩
      · obtain ⟨h285, h⟩ := guard_some h
        obtain ⟨h286, h⟩ := guard_some h
        simp at h
      · obtain ⟨o287, hl287, h⟩ := bind_some h
        obtain ⟨h324, h⟩ := guard_some h
        simp at h
    · simp only [Option.some.injEq, Sum.inr.injEq] at h
      subst h
      exact ⟨digest_Differ_L174_2 r3 r5 v12 v13 b2 v12 v69 b2 b3 c275, by intro q; cases q⟩
noncomputable def digest_Differ_L19_step (r3 : (List (List Int))) (r5 : (List (List Int))) : (Int × Int × (List Int)) → Option ((Int × Int × (List Int)) ⊕ (Int × (List Int)))
  | (v12, v13, b2) =>
    if v13 ≥ (0 : Int) then
      (lp (digest_Differ_L174_step r3 r5 v12 v13 b2) (v12, (0 : Int), b2, ([] : (List Int)))).bind fun o174 =>
      if InR .i64 (v13 - 1) then
        some (Sum.inl (o174.1, (v13 - 1), o174.2.2))
      else none
    else
      some (Sum.inr (v12, b2))
def digest_Differ_L19_H (r3 : (List (List Int))) (r5 : (List (List Int))) : (Int × Int × (List Int)) → St := fun (s : (Int × Int × (List Int))) => S 121 [(8, .vec 0 r3.length 1), (9, .vec 1 r5.length 1), (11, .vec 2 s.2.2.length 1), (12, .int .i64 s.1), (13, .int .i64 s.2.1)] [(bV (fl (e_lst e_u64) r3) 26), (bV (fl (e_lst e_u64) r5) 26), (bV (fl e_i64 s.2.2) 3)]
theorem digest_Differ_L19_0 (r3 : (List (List Int))) (r5 : (List (List Int))) (v12 : Int) (v13 : Int) (b2 : (List Int)) (c173 : v13 ≥ (0 : Int)) (o174 : (Int × (List Int) × (List Int))) (hl174 : lp (digest_Differ_L174_step r3 r5 v12 v13 b2) (v12, (0 : Int), b2, ([] : (List Int))) = some o174) (h325 : InR .i64 (v13 - 1)) : Does Tryz.prog G0 2 (bodyAt Tryz.prog 35 [1, 1, 1, 1, 1, 1, 1, 0, 1, 0, 0]) (digest_Differ_L19_H r3 r5 (v12, v13, b2)) .normal (S 121 [(8, .vec 0 r3.length 1), (9, .vec 1 r5.length 1), (11, .vec 2 o174.2.2.length 1), (12, .int .i64 o174.1), (13, .int .i64 (v13 - 1))] [(bV (fl (e_lst e_u64) r3) 26), (bV (fl (e_lst e_u64) r5) 26), (bV (fl e_i64 o174.2.2) 3)]) :=
  Does.of_viewM 2 400 ((.op none .c) :: (.op none .a) :: (.br true) :: (cs 4 ((.tr (.vec (.t 14) 1 3)) :: (.fcut 3 (.exit 4) [(8, .vec 0 r3.length 1), (9, .vec 1 r5.length 1), (12, .int .i64 o174.1), (13, .int .i64 v13), (14, .vec 3 o174.2.2.length 1)] [(bV (fl (e_lst e_u64) r3) 26), (bV (fl (e_lst e_u64) r5) 26), (bV (fl e_i64 o174.2.1) 3), (bV (fl e_i64 o174.2.2) 3)] [0, 1, 2, 3] [(8, .vec 0 r3.length 1), (9, .vec 1 r5.length 1), (12, .int .i64 v12), (13, .int .i64 v13), (14, .vec 3 (([] : (List Int)).length) 1), (67, .vec 2 b2.length 1), (68, .int .i64 (↑b2.length : Int)), (69, .int .i64 (0 : Int))] [(bV (fl (e_lst e_u64) r3) 26), (bV (fl (e_lst e_u64) r5) 26), (bV (fl e_i64 b2) 3), (bV (fl e_i64 ([] : (List Int))) 3)]) :: (cs 3 [.op none .w, .op none .c])))) [0, 1, 7] (ps := [((decide (v13 ≥ (0 : Int))) = true), ((.vec 0 r3.length 1 : AV) = .vec 0 r3.length 1), ((.vec 1 r5.length 1 : AV) = .vec 1 r5.length 1), ((.int .i64 v12 : AV) = .int .i64 v12), ((.int .i64 v13 : AV) = .int .i64 v13), ((.vec 3 0 1 : AV) = .vec 3 (([] : (List Int)).length) 1), ((.vec 2 b2.length 1 : AV) = .vec 2 b2.length 1), ((.int .i64 (↑b2.length : Int) : AV) = .int .i64 (↑b2.length : Int)), ((.int .i64 0 : AV) = .int .i64 (0 : Int)), (((bV (fl (e_lst e_u64) r3) 26) : Blk) = renB [0, 1, 2, 3] (bV (fl (e_lst e_u64) r3) 26)), (((bV (fl (e_lst e_u64) r5) 26) : Blk) = renB [0, 1, 2, 3] (bV (fl (e_lst e_u64) r5) 26)), (((bV (fl e_i64 b2) 3) : Blk) = renB [0, 1, 2, 3] (bV (fl e_i64 b2) 3)), (((bV [] 3) : Blk) = renB [0, 1, 2, 3] (bV (fl e_i64 ([] : (List Int))) 3)), (Does Tryz.prog G0 3 (.loop (bodyAt Tryz.prog 35 [1, 1, 1, 1, 1, 1, 1, 0, 1, 0, 0, 1, 0, 0, 1, 0, 1, 0, 0])) (S 121 [(8, .vec 0 r3.length 1), (9, .vec 1 r5.length 1), (12, .int .i64 v12), (13, .int .i64 v13), (14, .vec 3 (([] : (List Int)).length) 1), (67, .vec 2 b2.length 1), (68, .int .i64 (↑b2.length : Int)), (69, .int .i64 (0 : Int))] [(bV (fl (e_lst e_u64) r3) 26), (bV (fl (e_lst e_u64) r5) 26), (bV (fl e_i64 b2) 3), (bV (fl e_i64 ([] : (List Int))) 3)]) (.exit 4) (S 121 [(8, .vec 0 r3.length 1), (9, .vec 1 r5.length 1), (12, .int .i64 o174.1), (13, .int .i64 v13), (14, .vec 3 o174.2.2.length 1)] [(bV (fl (e_lst e_u64) r3) 26), (bV (fl (e_lst e_u64) r5) 26), (bV (fl e_i64 o174.2.1) 3), (bV (fl e_i64 o174.2.2) 3)])), (IntKind.min .i64 ≤ (v13 - 1) ∧ (v13 - 1) ≤ IntKind.max .i64)]) (by kernel_rfl) (by kernel_rfl) ⟨(decide_eq_true c173), rfl, rfl, rfl, rfl, (by first | rfl | simp only [List.length_replicate, List.length_set]), rfl, rfl, rfl, rfl, rfl, rfl, rfl, (digest_Differ_L174_does r3 r5 v12 v13 b2 (s := (v12, (0 : Int), b2, ([] : (List Int)))) (r := o174) hl174), ok1 h325⟩
theorem digest_Differ_L19_1 (r3 : (List (List Int))) (r5 : (List (List Int))) (v12 : Int) (v13 : Int) (b2 : (List Int)) (c173 : ¬ (v13 ≥ (0 : Int))) : Does Tryz.prog G0 2 (bodyAt Tryz.prog 35 [1, 1, 1, 1, 1, 1, 1, 0, 1, 0, 0]) (digest_Differ_L19_H r3 r5 (v12, v13, b2)) (.exit 2) (S 121 [(11, .vec 2 b2.length 1), (12, .int .i64 v12)] [(bV (fl (e_lst e_u64) r3) 26), (bV (fl (e_lst e_u64) r5) 26), (bV (fl e_i64 b2) 3)]) :=
  Does.of_viewM 2 400 [.op none .c, .op none .a, .br false] [0, 1, 2] (ps := [((decide (v13 ≥ (0 : Int))) = false)]) (by kernel_rfl) (by kernel_rfl) (ok1 (decide_eq_false c173))
def digest_Differ_L19_X (r3 : (List (List Int))) (r5 : (List (List Int))) : (Int × (List Int)) → AEx := fun o => (.exit 2)
def digest_Differ_L19_E (r3 : (List (List Int))) (r5 : (List (List Int))) : (Int × (List Int)) → St := fun o => S 121 [(11, .vec 2 o.2.length 1), (12, .int .i64 o.1)] [(bV (fl (e_lst e_u64) r3) 26), (bV (fl (e_lst e_u64) r5) 26), (bV (fl e_i64 o.2) 3)]
theorem digest_Differ_L19_does (r3 : (List (List Int))) (r5 : (List (List Int))) {s : (Int × Int × (List Int))} {r : (Int × (List Int))} (h : lp (digest_Differ_L19_step r3 r5) s = some r) : Does Tryz.prog G0 2 (.loop (bodyAt Tryz.prog 35 [1, 1, 1, 1, 1, 1, 1, 0, 1, 0, 0])) (digest_Differ_L19_H r3 r5 s) (digest_Differ_L19_X r3 r5 r) (digest_Differ_L19_E r3 r5 r) := by
  refine Does.lp (H := digest_Differ_L19_H r3 r5) (X := digest_Differ_L19_X r3 r5) (E := digest_Differ_L19_E r3 r5) (fun s s2 h => ?_) (fun s r h => ?_) h
  · obtain ⟨v12, v13, b2⟩ := s
    unfold digest_Differ_L19_step at h
    try dsimp only at h
    rcases ite_some h with ⟨c173, h⟩ | ⟨c173, h⟩
    · obtain ⟨o174, hl174, h⟩ := bind_some h
      obtain ⟨h325, h⟩ := guard_some h
      simp only [Option.some.injEq, Sum.inl.injEq] at h
      subst h
      have hq := digest_Differ_L19_0 r3 r5 v12 v13 b2 c173 o174 hl174 h325
      first | exact hq | exact Eq.mp (by simp only [digest_Differ_L19_H, List.length_set] <;> rfl) hq
    · simp at h
  · obtain ⟨v12, v13, b2⟩ := s
    unfold digest_Differ_L19_step at h
    try dsimp only at h
    rcases ite_some h with ⟨c173, h⟩ | ⟨c173, h⟩
    · obtain ⟨o174, hl174, h⟩ := bind_some h
      obtain ⟨h325, h⟩ := guard_some h
      simp at h
    · simp only [Option.some.injEq, Sum.inr.injEq] at h
      subst h
      exact ⟨digest_Differ_L19_1 r3 r5 v12 v13 b2 c173, by intro q; cases q⟩
noncomputable def digest_Differ_L326_step (a_0 : (List Int)) (b_1 : (List Int)) : (Int × (List Int)) → Option ((Int × (List Int)) ⊕ (List Int))
  | (v28, b0) =>
    if v28 < (if (↑a_0.length : Int) < (↑b_1.length : Int) then (↑b_1.length : Int) else (↑a_0.length : Int)) then
      if b0.length + 1 ≤ 4294967296 then
        if InR .i64 (v28 + 1) then
          some (Sum.inl ((v28 + 1), (b0 ++ [v28])))
        else none
      else none
    else
      some (Sum.inr b0)
def digest_Differ_L326_H (a_0 : (List Int)) (b_1 : (List Int)) : (Int × (List Int)) → St := fun (s : (Int × (List Int))) => S 121 [(6, .vec 0 s.2.length 1), (27, .int .i64 (if (↑a_0.length : Int) < (↑b_1.length : Int) then (↑b_1.length : Int) else (↑a_0.length : Int))), (28, .int .i64 s.1)] [(bV (fl e_i64 s.2) 3)]
theorem digest_Differ_L326_0 (a_0 : (List Int)) (b_1 : (List Int)) (v28 : Int) (b0 : (List Int)) (c330 : v28 < (if (↑a_0.length : Int) < (↑b_1.length : Int) then (↑b_1.length : Int) else (↑a_0.length : Int))) (h331 : b0.length + 1 ≤ 4294967296) (h332 : InR .i64 (v28 + 1)) : Does Tryz.prog G0 0 (bodyAt Tryz.prog 35 [1, 0, 1, 0, 1, 0, 1, 0, 0]) (digest_Differ_L326_H a_0 b_1 (v28, b0)) .normal (S 121 [(6, .vec 0 ((b0 ++ [v28]).length) 1), (27, .int .i64 (if (↑a_0.length : Int) < (↑b_1.length : Int) then (↑b_1.length : Int) else (↑a_0.length : Int))), (28, .int .i64 (v28 + 1))] [(bV (fl e_i64 (b0 ++ [v28])) 3)]) :=
  Does.of_viewM 0 400 ((.op none .a) :: (.br true) :: (cs 5 [.op none (.ap 4), .tr (.eqc 2 (fl e_i64 (b0 ++ [v28]))), .tr (.eqt (.t 34) (.vec 2 ((b0 ++ [v28]).length) 1)), .op none .c, .op none .w, .op none .c])) [2] (ps := [((decide (v28 < (if (↑a_0.length : Int) < (↑b_1.length : Int) then (↑b_1.length : Int) else (↑a_0.length : Int)))) = true), (0 + 1 ≤ List.length ([.int .i64 v28] : List AV)), (List.length ((fl e_i64 b0) : List AV) = b0.length), (List.all ([.int .i64 v28] : List AV) AV.one = true), (b0.length + 1 ≤ 4294967296), ((fl e_i64 b0) ++ [.int .i64 v28] = (fl e_i64 (b0 ++ [v28]))), ((.vec 2 (b0.length + 1) 1 : AV) = .vec 2 ((b0 ++ [v28]).length) 1), (IntKind.min .i64 ≤ (v28 + 1) ∧ (v28 + 1) ≤ IntKind.max .i64)]) (by kernel_rfl) (by kernel_rfl) ⟨(decide_eq_true c330), (Nat.le_of_ble_eq_true rfl), (fl_length1 (f := e_i64) (fun _ => rfl) _), rfl, h331, (fl_snoc rfl), (by simp <;> omega), ok1 h332⟩
theorem digest_Differ_L326_1 (a_0 : (List Int)) (b_1 : (List Int)) (v28 : Int) (b0 : (List Int)) (c330 : ¬ (v28 < (if (↑a_0.length : Int) < (↑b_1.length : Int) then (↑b_1.length : Int) else (↑a_0.length : Int)))) : Does Tryz.prog G0 0 (bodyAt Tryz.prog 35 [1, 0, 1, 0, 1, 0, 1, 0, 0]) (digest_Differ_L326_H a_0 b_1 (v28, b0)) (.exit 0) (S 121 [(6, .vec 0 b0.length 1)] [(bV (fl e_i64 b0) 3)]) :=
  Does.of_viewM 0 400 [.op none .a, .br false] [0] (ps := [((decide (v28 < (if (↑a_0.length : Int) < (↑b_1.length : Int) then (↑b_1.length : Int) else (↑a_0.length : Int)))) = false)]) (by kernel_rfl) (by kernel_rfl) (ok1 (decide_eq_false c330))
def digest_Differ_L326_X (a_0 : (List Int)) (b_1 : (List Int)) : (List Int) → AEx := fun o => (.exit 0)
def digest_Differ_L326_E (a_0 : (List Int)) (b_1 : (List Int)) : (List Int) → St := fun o => S 121 [(6, .vec 0 o.length 1)] [(bV (fl e_i64 o) 3)]
theorem digest_Differ_L326_does (a_0 : (List Int)) (b_1 : (List Int)) {s : (Int × (List Int))} {r : (List Int)} (h : lp (digest_Differ_L326_step a_0 b_1) s = some r) : Does Tryz.prog G0 0 (.loop (bodyAt Tryz.prog 35 [1, 0, 1, 0, 1, 0, 1, 0, 0])) (digest_Differ_L326_H a_0 b_1 s) (digest_Differ_L326_X a_0 b_1 r) (digest_Differ_L326_E a_0 b_1 r) := by
  refine Does.lp (H := digest_Differ_L326_H a_0 b_1) (X := digest_Differ_L326_X a_0 b_1) (E := digest_Differ_L326_E a_0 b_1) (fun s s2 h => ?_) (fun s r h => ?_) h
  · obtain ⟨v28, b0⟩ := s
    unfold digest_Differ_L326_step at h
    try dsimp only at h
    rcases ite_some h with ⟨c330, h⟩ | ⟨c330, h⟩
    · obtain ⟨h331, h⟩ := guard_some h
      obtain ⟨h332, h⟩ := guard_some h
      simp only [Option.some.injEq, Sum.inl.injEq] at h
      subst h
      have hq := digest_Differ_L326_0 a_0 b_1 v28 b0 c330 h331 h332
      first | exact hq | exact Eq.mp (by simp only [digest_Differ_L326_H, List.length_set] <;> rfl) hq
    · simp at h
  · obtain ⟨v28, b0⟩ := s
    unfold digest_Differ_L326_step at h
    try dsimp only at h
    rcases ite_some h with ⟨c330, h⟩ | ⟨c330, h⟩
    · obtain ⟨h331, h⟩ := guard_some h
      obtain ⟨h332, h⟩ := guard_some h
      simp at h
    · simp only [Option.some.injEq, Sum.inr.injEq] at h
      subst h
      exact ⟨digest_Differ_L326_1 a_0 b_1 v28 b0 c330, by intro q; cases q⟩
noncomputable def digest_Differ (a_0 : (List Int)) (b_1 : (List Int)) : Option ((List Int) × Int) :=
  if (↑a_0.length : Int) = (↑b_1.length : Int) then
    if (↑a_0.length : Int) = (0 : Int) then
      some (([] : List Int), 0)
    else
      (digest_levels a_0).bind fun r3 =>
      (digest_levels b_1).bind fun r5 =>
      if InR .i64 ((↑r3.length : Int) - 1) then
        if (0 : Int) ≤ ((↑r3.length : Int) - 1) then
          (r3[(Int.toNat ((↑r3.length : Int) - 1))]?).bind fun x9 =>
          (x9[0]?).bind fun x11 =>
          (r5[(Int.toNat ((↑r3.length : Int) - 1))]?).bind fun x13 =>
          (x13[0]?).bind fun x15 =>
          if x11 = x15 then
            some (([] : List Int), 1)
          else
            if InR .i64 (((↑r3.length : Int) - 1) - 1) then
              (lp (digest_Differ_L19_step r3 r5) ((1 : Int), (((↑r3.length : Int) - 1) - 1), ([0] : (List Int)))).bind fun o19 =>
              some (o19.2, o19.1)
            else none
        else none
      else none
  else
    (lp (digest_Differ_L326_step a_0 b_1) ((0 : Int), ([] : (List Int)))).bind fun o326 =>
    some (o326, 0)
def digest_Differ_h1  : List CH := (cs 6 [.op none .a])
def digest_Differ_h2  : List CH := ((.br false) :: (cs 2 [.op none .a]))
def digest_Differ_h3 (a_0 : (List Int)) (b_1 : (List Int)) (r3 : (List (List Int))) (r5 : (List (List Int))) (x9 : (List Int)) (x11 : Int) (x13 : (List Int)) (x15 : Int) : List CH := ((.br false) :: (.op none .c) :: (.ret none [.lst (fl e_u64 a_0) a_0.length] (.vec 0 r3.length 1) [(bV (fl (e_lst e_u64) r3) 26)]) :: (.op none .c) :: (.ret none [.lst (fl e_u64 b_1) b_1.length] (.vec 0 r5.length 1) [(bV (fl (e_lst e_u64) r5) 26)]) :: (cs 4 ((.op none .w) :: (cs 3 ((.op none (.i (Int.toNat ((↑r3.length : Int) - 1)))) :: (.op none (.v [.lst (fl e_u64 x9) x9.length])) :: (.op none (.i 0)) :: (.op none (.v [.int .u64 x11])) :: (cs 2 [.op none (.i (Int.toNat ((↑r3.length : Int) - 1))), .op none (.v [.lst (fl e_u64 x13) x13.length]), .op none (.i 0), .op none (.v [.int .u64 x15]), .op none .a]))))))
def digest_Differ_p4 (a_0 : (List Int)) (b_1 : (List Int)) (r3 : (List (List Int))) (r5 : (List (List Int))) (x9 : (List Int)) (x11 : Int) (x13 : (List Int)) (x15 : Int) : List Prop := [(((↑a_0.length : Int) == (0 : Int)) = false), ((.lst (fl e_u64 a_0) a_0.length : AV) = .lst (fl e_u64 a_0) a_0.length), (Ret Tryz.prog G0 61 [.lst (fl e_u64 a_0) a_0.length] (.vec 0 r3.length 1) [(bV (fl (e_lst e_u64) r3) 26)]), ((.lst (fl e_u64 b_1) b_1.length : AV) = .lst (fl e_u64 b_1) b_1.length), (Ret Tryz.prog G0 61 [.lst (fl e_u64 b_1) b_1.length] (.vec 0 r5.length 1) [(bV (fl (e_lst e_u64) r5) 26)]), (IntKind.min .i64 ≤ ((↑r3.length : Int) - 1) ∧ ((↑r3.length : Int) - 1) ≤ IntKind.max .i64), (((↑r3.length : Int) - 1) = (((Int.toNat ((↑r3.length : Int) - 1)) : Nat) : Int) ∧ (Int.toNat ((↑r3.length : Int) - 1)) < r3.length), (sub (fl (e_lst e_u64) r3) (Int.toNat ((↑r3.length : Int) - 1)) 1 = [.lst (fl e_u64 x9) x9.length]), ((0 : Int) = ((0 : Nat) : Int) ∧ 0 < x9.length), ((fl e_u64 x9) ≠ []), (sub (fl e_u64 x9) 0 1 = [.int .u64 x11]), (((↑r3.length : Int) - 1) = (((Int.toNat ((↑r3.length : Int) - 1)) : Nat) : Int) ∧ (Int.toNat ((↑r3.length : Int) - 1)) < r5.length), (sub (fl (e_lst e_u64) r5) (Int.toNat ((↑r3.length : Int) - 1)) 1 = [.lst (fl e_u64 x13) x13.length]), ((0 : Int) = ((0 : Nat) : Int) ∧ 0 < x13.length), ((fl e_u64 x13) ≠ []), (sub (fl e_u64 x13) 0 1 = [.int .u64 x15])]
theorem digest_Differ_p4q (a_0 : (List Int)) (b_1 : (List Int)) (c2 : ¬ ((↑a_0.length : Int) = (0 : Int))) (r3 : (List (List Int))) (h4 : digest_levels a_0 = some r3) (r5 : (List (List Int))) (h6 : digest_levels b_1 = some r5) (h7 : InR .i64 ((↑r3.length : Int) - 1)) (h8 : (0 : Int) ≤ ((↑r3.length : Int) - 1)) (x9 : (List Int)) (h10 : r3[(Int.toNat ((↑r3.length : Int) - 1))]? = some x9) (x11 : Int) (h12 : x9[0]? = some x11) (x13 : (List Int)) (h14 : r5[(Int.toNat ((↑r3.length : Int) - 1))]? = some x13) (x15 : Int) (h16 : x13[0]? = some x15) : allOk (digest_Differ_p4 a_0 b_1 r3 r5 x9 x11 x13 x15) := ⟨(beq_f c2), rfl, (digest_levels_ret a_0 r3 h4), rfl, (digest_levels_ret b_1 r5 h6), h7, ⟨(Int.toNat_of_nonneg h8).symm, get_lt h10⟩, (fl_sub1 (f := (e_lst e_u64)) (fun _ => rfl) h10 rfl), ⟨rfl, get_lt h12⟩, (fl_ne (f := e_u64) (z := 0) (fun _ => rfl) h12), (fl_sub1 (f := e_u64) (fun _ => rfl) h12 rfl), ⟨(Int.toNat_of_nonneg h8).symm, get_lt h14⟩, (fl_sub1 (f := (e_lst e_u64)) (fun _ => rfl) h14 rfl), ⟨rfl, get_lt h16⟩, (fl_ne (f := e_u64) (z := 0) (fun _ => rfl) h16), ok1 (fl_sub1 (f := e_u64) (fun _ => rfl) h16 rfl)⟩
theorem digest_Differ_0 (a_0 : (List Int)) (b_1 : (List Int)) (c1 : (↑a_0.length : Int) = (↑b_1.length : Int)) (c2 : (↑a_0.length : Int) = (0 : Int)) : Ret Tryz.prog G0 35 [.lst (fl e_u64 a_0) a_0.length, .lst (fl e_u64 b_1) b_1.length] (.tup [.vec 0 (([] : List Int).length) 1, .int .i64 0]) [(bV (fl e_i64 ([] : List Int)) 3)] :=
  Ret.of_view 400 ((digest_Differ_h1) ++ ((digest_Differ_h2) ++ ((.br true) :: (cs 2 [.tr (.vec (.t 4) 1 3), .tr (.eqc 0 (fl e_i64 ([] : List Int))), .tr (.eqt (.t 4) (.vec 0 (([] : List Int).length) 1))])))) [0] (ps := ([((!((↑a_0.length : Int) == (↑b_1.length : Int))) = false)] ++ [(((↑a_0.length : Int) == (0 : Int)) = true), ([] = (fl e_i64 ([] : List Int))), ((.vec 0 0 1 : AV) = .vec 0 (([] : List Int).length) 1)])) (by kernel_rfl) (by kernel_rfl) (allOk_append.2 ⟨(ok1 (not_f (beq_t c1))), ⟨(beq_t c2), rfl, ok1 rfl⟩⟩)
theorem digest_Differ_1 (a_0 : (List Int)) (b_1 : (List Int)) (c1 : (↑a_0.length : Int) = (↑b_1.length : Int)) (c2 : ¬ ((↑a_0.length : Int) = (0 : Int))) (r3 : (List (List Int))) (h4 : digest_levels a_0 = some r3) (r5 : (List (List Int))) (h6 : digest_levels b_1 = some r5) (h7 : InR .i64 ((↑r3.length : Int) - 1)) (h8 : (0 : Int) ≤ ((↑r3.length : Int) - 1)) (x9 : (List Int)) (h10 : r3[(Int.toNat ((↑r3.length : Int) - 1))]? = some x9) (x11 : Int) (h12 : x9[0]? = some x11) (x13 : (List Int)) (h14 : r5[(Int.toNat ((↑r3.length : Int) - 1))]? = some x13) (x15 : Int) (h16 : x13[0]? = some x15) (c17 : x11 = x15) : Ret Tryz.prog G0 35 [.lst (fl e_u64 a_0) a_0.length, .lst (fl e_u64 b_1) b_1.length] (.tup [.vec 0 (([] : List Int).length) 1, .int .i64 1]) [(bV (fl e_i64 ([] : List Int)) 3)] :=
  Ret.of_view 400 ((digest_Differ_h1) ++ ((digest_Differ_h2) ++ ((digest_Differ_h3 a_0 b_1 r3 r5 x9 x11 x13 x15) ++ ((.br true) :: (cs 2 [.tr (.vec (.t 4) 1 3), .tr (.eqc 2 (fl e_i64 ([] : List Int))), .tr (.eqt (.t 4) (.vec 2 (([] : List Int).length) 1))]))))) [2] (ps := ([((!((↑a_0.length : Int) == (↑b_1.length : Int))) = false)] ++ ((digest_Differ_p4 a_0 b_1 r3 r5 x9 x11 x13 x15) ++ [((x11 == x15) = true), ([] = (fl e_i64 ([] : List Int))), ((.vec 2 0 1 : AV) = .vec 2 (([] : List Int).length) 1)]))) (by kernel_rfl) (by kernel_rfl) (allOk_append.2 ⟨(ok1 (not_f (beq_t c1))), (allOk_append.2 ⟨(digest_Differ_p4q a_0 b_1 c2 r3 h4 r5 h6 h7 h8 x9 h10 x11 h12 x13 h14 x15 h16), ⟨(beq_t c17), rfl, ok1 rfl⟩⟩)⟩)
theorem digest_Differ_2 (a_0 : (List Int)) (b_1 : (List Int)) (c1 : (↑a_0.length : Int) = (↑b_1.length : Int)) (c2 : ¬ ((↑a_0.length : Int) = (0 : Int))) (r3 : (List (List Int))) (h4 : digest_levels a_0 = some r3) (r5 : (List (List Int))) (h6 : digest_levels b_1 = some r5) (h7 : InR .i64 ((↑r3.length : Int) - 1)) (h8 : (0 : Int) ≤ ((↑r3.length : Int) - 1)) (x9 : (List Int)) (h10 : r3[(Int.toNat ((↑r3.length : Int) - 1))]? = some x9) (x11 : Int) (h12 : x9[0]? = some x11) (x13 : (List Int)) (h14 : r5[(Int.toNat ((↑r3.length : Int) - 1))]? = some x13) (x15 : Int) (h16 : x13[0]? = some x15) (c17 : ¬ (x11 = x15)) (h18 : InR .i64 (((↑r3.length : Int) - 1) - 1)) (o19 : (Int × (List Int))) (hl19 : lp (digest_Differ_L19_step r3 r5) ((1 : Int), (((↑r3.length : Int) - 1) - 1), ([0] : (List Int))) = some o19) : Ret Tryz.prog G0 35 [.lst (fl e_u64 a_0) a_0.length, .lst (fl e_u64 b_1) b_1.length] (.tup [.vec 0 o19.2.length 1, .int .i64 o19.1]) [(bV (fl e_i64 o19.2) 3)] :=
  Ret.of_view 400 ((digest_Differ_h1) ++ ((digest_Differ_h2) ++ ((digest_Differ_h3 a_0 b_1 r3 r5 x9 x11 x13 x15) ++ ((.br false) :: (cs 4 ((.op none .w) :: (.op none .c) :: (.tr (.wid (.t 11))) :: (.fcut 2 (.exit 2) [(11, .vec 2 o19.2.length 1), (12, .int .i64 o19.1)] [(bV (fl (e_lst e_u64) r3) 26), (bV (fl (e_lst e_u64) r5) 26), (bV (fl e_i64 o19.2) 3)] [0, 1, 2] [(8, .vec 0 r3.length 1), (9, .vec 1 r5.length 1), (11, .vec 2 (([0] : (List Int)).length) 1), (12, .int .i64 (1 : Int)), (13, .int .i64 (((↑r3.length : Int) - 1) - 1))] [(bV (fl (e_lst e_u64) r3) 26), (bV (fl (e_lst e_u64) r5) 26), (bV (fl e_i64 ([0] : (List Int))) 3)]) :: (cs 4 []))))))) [5] (ps := ([((!((↑a_0.length : Int) == (↑b_1.length : Int))) = false)] ++ ((digest_Differ_p4 a_0 b_1 r3 r5 x9 x11 x13 x15) ++ [((x11 == x15) = false), (IntKind.min .i64 ≤ (((↑r3.length : Int) - 1) - 1) ∧ (((↑r3.length : Int) - 1) - 1) ≤ IntKind.max .i64), (1 ≤ 1), ((.vec 0 r3.length 1 : AV) = .vec 0 r3.length 1), ((.vec 1 r5.length 1 : AV) = .vec 1 r5.length 1), ((.vec 2 1 1 : AV) = .vec 2 (([0] : (List Int)).length) 1), ((.int .i64 1 : AV) = .int .i64 (1 : Int)), ((.int .i64 (((↑r3.length : Int) - 1) - 1) : AV) = .int .i64 (((↑r3.length : Int) - 1) - 1)), (((bV (fl (e_lst e_u64) r3) 26) : Blk) = renB [0, 1, 2] (bV (fl (e_lst e_u64) r3) 26)), (((bV (fl (e_lst e_u64) r5) 26) : Blk) = renB [0, 1, 2] (bV (fl (e_lst e_u64) r5) 26)), (((bV [.int .i64 0] 3) : Blk) = renB [0, 1, 2] (bV (fl e_i64 ([0] : (List Int))) 3)), (Does Tryz.prog G0 2 (.loop (bodyAt Tryz.prog 35 [1, 1, 1, 1, 1, 1, 1, 0, 1, 0, 0])) (S 121 [(8, .vec 0 r3.length 1), (9, .vec 1 r5.length 1), (11, .vec 2 (([0] : (List Int)).length) 1), (12, .int .i64 (1 : Int)), (13, .int .i64 (((↑r3.length : Int) - 1) - 1))] [(bV (fl (e_lst e_u64) r3) 26), (bV (fl (e_lst e_u64) r5) 26), (bV (fl e_i64 ([0] : (List Int))) 3)]) (.exit 2) (S 121 [(11, .vec 2 o19.2.length 1), (12, .int .i64 o19.1)] [(bV (fl (e_lst e_u64) r3) 26), (bV (fl (e_lst e_u64) r5) 26), (bV (fl e_i64 o19.2) 3)]))]))) (by kernel_rfl) (by kernel_rfl) (allOk_append.2 ⟨(ok1 (not_f (beq_t c1))), (allOk_append.2 ⟨(digest_Differ_p4q a_0 b_1 c2 r3 h4 r5 h6 h7 h8 x9 h10 x11 h12 x13 h14 x15 h16), ⟨(beq_f c17), h18, (Nat.le_refl _), rfl, rfl, (by first | rfl | simp only [List.length_replicate, List.length_set]), rfl, rfl, rfl, rfl, rfl, ok1 (digest_Differ_L19_does r3 r5 (s := ((1 : Int), (((↑r3.length : Int) - 1) - 1), ([0] : (List Int)))) (r := o19) hl19)⟩⟩)⟩)
theorem digest_Differ_3 (a_0 : (List Int)) (b_1 : (List Int)) (c1 : ¬ ((↑a_0.length : Int) = (↑b_1.length : Int))) (o326 : (List Int)) (hl326 : lp (digest_Differ_L326_step a_0 b_1) ((0 : Int), ([] : (List Int))) = some o326) : Ret Tryz.prog G0 35 [.lst (fl e_u64 a_0) a_0.length, .lst (fl e_u64 b_1) b_1.length] (.tup [.vec 0 o326.length 1, .int .i64 0]) [(bV (fl e_i64 o326) 3)] :=
  Ret.of_view 400 ((digest_Differ_h1) ++ ((.br true) :: (cs 5 ((.op none .a) :: (.op none .c) :: (.tr (.vec (.t 6) 1 3)) :: (.fcut 0 (.exit 0) [(6, .vec 0 o326.length 1)] [(bV (fl e_i64 o326) 3)] [0] [(6, .vec 0 (([] : (List Int)).length) 1), (27, .int .i64 (if (↑a_0.length : Int) < (↑b_1.length : Int) then (↑b_1.length : Int) else (↑a_0.length : Int))), (28, .int .i64 (0 : Int))] [(bV (fl e_i64 ([] : (List Int))) 3)]) :: (cs 3 []))))) [1] (ps := [((!((↑a_0.length : Int) == (↑b_1.length : Int))) = true), ((.vec 0 0 1 : AV) = .vec 0 (([] : (List Int)).length) 1), ((.int .i64 (if (↑a_0.length : Int) < (↑b_1.length : Int) then (↑b_1.length : Int) else (↑a_0.length : Int)) : AV) = .int .i64 (if (↑a_0.length : Int) < (↑b_1.length : Int) then (↑b_1.length : Int) else (↑a_0.length : Int))), ((.int .i64 0 : AV) = .int .i64 (0 : Int)), (((bV [] 3) : Blk) = renB [0] (bV (fl e_i64 ([] : (List Int))) 3)), (Does Tryz.prog G0 0 (.loop (bodyAt Tryz.prog 35 [1, 0, 1, 0, 1, 0, 1, 0, 0])) (S 121 [(6, .vec 0 (([] : (List Int)).length) 1), (27, .int .i64 (if (↑a_0.length : Int) < (↑b_1.length : Int) then (↑b_1.length : Int) else (↑a_0.length : Int))), (28, .int .i64 (0 : Int))] [(bV (fl e_i64 ([] : (List Int))) 3)]) (.exit 0) (S 121 [(6, .vec 0 o326.length 1)] [(bV (fl e_i64 o326) 3)]))]) (by kernel_rfl) (by kernel_rfl) ⟨(not_t (beq_f c1)), (by first | rfl | simp only [List.length_replicate, List.length_set]), rfl, rfl, rfl, ok1 (digest_Differ_L326_does a_0 b_1 (s := ((0 : Int), ([] : (List Int)))) (r := o326) hl326)⟩
theorem digest_Differ_ret (a_0 : (List Int)) (b_1 : (List Int)) (r : ((List Int) × Int)) (h : digest_Differ a_0 b_1 = some r) : Ret Tryz.prog G0 35 [.lst (fl e_u64 a_0) a_0.length, .lst (fl e_u64 b_1) b_1.length] (.tup [.vec 0 r.1.length 1, .int .i64 r.2]) [(bV (fl e_i64 r.1) 3)] := by
  unfold digest_Differ at h
  rcases ite_some h with ⟨c1, h⟩ | ⟨c1, h⟩
  · rcases ite_some h with ⟨c2, h⟩ | ⟨c2, h⟩
    · simp only [Option.some.injEq] at h
      subst h
      exact digest_Differ_0 a_0 b_1 c1 c2
    · obtain ⟨r3, h4, h⟩ := bind_some h
      obtain ⟨r5, h6, h⟩ := bind_some h
      obtain ⟨h7, h⟩ := guard_some h
      obtain ⟨h8, h⟩ := guard_some h
      obtain ⟨x9, h10, h⟩ := bind_some h
      obtain ⟨x11, h12, h⟩ := bind_some h
      obtain ⟨x13, h14, h⟩ := bind_some h
      obtain ⟨x15, h16, h⟩ := bind_some h
      rcases ite_some h with ⟨c17, h⟩ | ⟨c17, h⟩
      · simp only [Option.some.injEq] at h
        subst h
        exact digest_Differ_1 a_0 b_1 c1 c2 r3 h4 r5 h6 h7 h8 x9 h10 x11 h12 x13 h14 x15 h16 c17
      · obtain ⟨h18, h⟩ := guard_some h
        obtain ⟨o19, hl19, h⟩ := bind_some h
        simp only [Option.some.injEq] at h
        subst h
        exact digest_Differ_2 a_0 b_1 c1 c2 r3 h4 r5 h6 h7 h8 x9 h10 x11 h12 x13 h14 x15 h16 c17 h18 o19 hl19
  · obtain ⟨o326, hl326, h⟩ := bind_some h
    simp only [Option.some.injEq] at h
    subst h
    exact digest_Differ_3 a_0 b_1 c1 o326 hl326
end Go.Proofs.YtpadimnchmghpaaGreatDoor.Av
