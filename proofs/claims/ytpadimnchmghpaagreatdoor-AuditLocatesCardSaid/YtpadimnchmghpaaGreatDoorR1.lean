import Derived.Test.YtpadimnchmghpaaGreatDoorAvZ
import Derived.Test.YtpadimnchmghpaaGreatDoorProg
import Derived.Tactics
import Derived.Test.YtpadimnchmghpaaGreatDoorR0
import Derived.Test.YtpadimnchmghpaaGreatDoorN2
set_option linter.unusedVariables false
set_option linter.unusedSimpArgs false
set_option maxHeartbeats 4000000
set_option maxRecDepth 100000
namespace Go.Proofs.YtpadimnchmghpaaGreatDoor.Av
open Go Go.Proofs
noncomputable def tollwayref04_Day (t_0 : Int) : Option Int :=
  if t_0 ≥ (0 : Int) then
    if t_0 < (68719476736 : Int) then
      if InR .i64 (Int.tdiv t_0 86400) then
        some (Int.tdiv t_0 86400)
      else none
    else
      some (-1)
  else
    some (-1)
theorem tollwayref04_Day_ret (t_0 : Int) (r : Int) (h : tollwayref04_Day t_0 = some r) : Ret Tryz.prog G0 66 [.int .i64 t_0] (.int .i64 r) [] := by
  unfold tollwayref04_Day at h
  rcases ite_some h with ⟨c1, h⟩ | ⟨c1, h⟩
  · rcases ite_some h with ⟨c2, h⟩ | ⟨c2, h⟩
    · obtain ⟨h3, h⟩ := guard_some h
      obtain rfl := oI h
      exact Ret.of_view 400 (cs 5 (oa :: oc :: tc :: oa :: (cs 3 [.br false, oc, ow, oc]))) [] (by kernel_rfl) (by kernel_rfl) (k2 (decide_eq_true c1) (k2 (not_f (decide_eq_true c2)) (k2 ((by decide) : 86400 ≠ (0 : Int)) (ok1 h3))))
    · obtain rfl := oI h
      exact Ret.of_view 400 (cs 5 (oa :: oc :: tc :: oa :: (cs 3 [.br true, oc]))) [] (by kernel_rfl) (by kernel_rfl) (k2 (decide_eq_true c1) (ok1 (not_t (decide_eq_false c2))))
  · obtain rfl := oI h
    exact Ret.of_view 400 (cs 5 (oa :: oc :: (.op (some false) .c) :: (cs 4 [.br true, oc]))) [] (by kernel_rfl) (by kernel_rfl) (k2 (decide_eq_false c1) (ok1 (rfl : true = true)))
noncomputable def tollwayref50_find (have_0 : (List Tapi_Charge)) (want_1 : (List Tapi_Charge)) (key_2 : (List UInt8)) : Option Tapi_Finding :=
  (tollwayref50_Of have_0 key_2).bind fun r1 =>
  (tollwayref50_Of want_1 key_2).bind fun r3 =>
  (tollwayref04_Day r1.1.Time).bind fun r5 =>
  if r3.2 = true then
    (tollwayref04_Day r3.1.Time).bind fun r8 =>
    some (⟨key_2, r8, r1.1.Cents, r3.1.Cents⟩ : Tapi_Finding)
  else
    some (⟨key_2, r5, r1.1.Cents, r3.1.Cents⟩ : Tapi_Finding)
theorem tollwayref50_find_ret (have_0 : (List Tapi_Charge)) (want_1 : (List Tapi_Charge)) (key_2 : (List UInt8)) (r : Tapi_Finding) (h : tollwayref50_find have_0 want_1 key_2 = some r) : Ret Tryz.prog G0 41 [.lst (fl Tapi_Charge.enc have_0) have_0.length, .lst (fl Tapi_Charge.enc want_1) want_1.length, .str key_2] (.agg (Tapi_Finding.enc r)) [] := by
  unfold tollwayref50_find at h
  obtain ⟨r1, h2, h⟩ := bind_some h
  obtain ⟨r3, h4, h⟩ := bind_some h
  obtain ⟨r5, h6, h⟩ := bind_some h
  rcases ite_some h with ⟨c7, h⟩ | ⟨c7, h⟩
  · obtain ⟨r8, h9, h⟩ := bind_some h
    obtain rfl := oI h
    exact Ret.of_view 400 (cs 3 ((.ret none [.any, .any] (.tup [.agg (Tapi_Charge.enc r1.1), .bool r1.2]) []) :: (cs 8 ((.ret none [.any, .any] (.tup [.agg (Tapi_Charge.enc r3.1), .bool r3.2]) []) :: (cs 8 ((.ret none [.any] (.int .i64 r5) []) :: (cs 2 ((.br true) :: (cs 2 ((.ret none [.any] (.int .i64 r8) []) :: (cs 9 []))))))))))) [] (by kernel_rfl) (by kernel_rfl) (k2 (tollwayref50_Of_ret have_0 key_2 r1 h2) (k2 (tollwayref50_Of_ret want_1 key_2 r3 h4) (k2 (tollwayref04_Day_ret r1.1.Time r5 h6) (k2 c7 (ok1 (tollwayref04_Day_ret r3.1.Time r8 h9))))))
  · obtain rfl := oI h
    exact Ret.of_view 400 (cs 3 ((.ret none [.any, .any] (.tup [.agg (Tapi_Charge.enc r1.1), .bool r1.2]) []) :: (cs 8 ((.ret none [.any, .any] (.tup [.agg (Tapi_Charge.enc r3.1), .bool r3.2]) []) :: (cs 8 ((.ret none [.any] (.int .i64 r5) []) :: (cs 2 ((.br false) :: (cs 8 []))))))))) [] (by kernel_rfl) (by kernel_rfl) (k2 (tollwayref50_Of_ret have_0 key_2 r1 h2) (k2 (tollwayref50_Of_ret want_1 key_2 r3 h4) (k2 (tollwayref04_Day_ret r1.1.Time r5 h6) (ok1 ((eq_false_of_ne_true c7) : r3.2 = false)))))
noncomputable def tollwayref07_Insert_L45_step (s_1 : (List UInt8)) (x39 : (List UInt8)) : Nat → Option (Nat ⊕ (Bool ⊕ Unit)) := fun k5 =>
  if (↑k5 : Int) < (↑s_1.length : Int) then
    if (↑k5 : Int) < (↑x39.length : Int) then
      (s_1[k5]?).bind fun x56 =>
      (x39[k5]?).bind fun x58 =>
      if (x56.toNat : Int) = (x58.toNat : Int) then
        if InR .i64 ((↑k5 : Int) + 1) then
          some (Sum.inl (k5 + 1))
        else none
      else
        some (Sum.inr (Sum.inl (decide ((x56.toNat : Int) < (x58.toNat : Int)))))
    else
      some (Sum.inr (Sum.inr (())))
  else
    some (Sum.inr (Sum.inr (())))
def tollwayref07_Insert_L45_H (s_1 : (List UInt8)) (x39 : (List UInt8)) : Nat → St := fun (s : Nat) => S 37 [(0, .str s_1), (1, .str x39), (5, .int .i64 (↑s : Int))] []
def tollwayref07_Insert_L45_X (s_1 : (List UInt8)) (x39 : (List UInt8)) : (Bool ⊕ Unit) → AEx := fun q => match q with | Sum.inl o => .ret | Sum.inr (o) => (.exit 0)
def tollwayref07_Insert_L45_T (s_1 : (List UInt8)) (x39 : (List UInt8)) : (Bool ⊕ Unit) → List (Nat × AV) := fun q => match q with | Sum.inl o => [(4, .bool o)] | Sum.inr (o) => [(0, .str s_1), (1, .str x39)]
def tollwayref07_Insert_L45_B (s_1 : (List UInt8)) (x39 : (List UInt8)) : (Bool ⊕ Unit) → List Blk := fun q => match q with | Sum.inl o => [] | Sum.inr (o) => []
def tollwayref07_Insert_L45_E (s_1 : (List UInt8)) (x39 : (List UInt8)) (q : Bool ⊕ Unit) : St := S 37 (tollwayref07_Insert_L45_T s_1 x39 q) (tollwayref07_Insert_L45_B s_1 x39 q)
theorem tollwayref07_Insert_L45_does (s_1 : (List UInt8)) (x39 : (List UInt8)) {s : Nat} {r : Bool ⊕ Unit} (h : lp (tollwayref07_Insert_L45_step s_1 x39) s = some r) : Does Tryz.prog G0 0 (.loop (bodyAt Tryz.prog 88 [1, 0, 1, 0, 0])) (tollwayref07_Insert_L45_H s_1 x39 s) (tollwayref07_Insert_L45_X s_1 x39 r) (tollwayref07_Insert_L45_E s_1 x39 r) := by
  refine Does.lp (H := tollwayref07_Insert_L45_H s_1 x39) (X := tollwayref07_Insert_L45_X s_1 x39) (E := tollwayref07_Insert_L45_E s_1 x39) (fun s s2 h => ?_) (fun s r h => ?_) h
  · revert h; revert s; intro k5 h
    unfold tollwayref07_Insert_L45_step at h
    try dsimp only at h
    rcases ite_some h with ⟨c54, h⟩ | ⟨c54, h⟩
    · rcases ite_some h with ⟨c55, h⟩ | ⟨c55, h⟩
      · obtain ⟨x56, h57, h⟩ := bind_some h
        obtain ⟨x58, h59, h⟩ := bind_some h
        rcases ite_some h with ⟨c60, h⟩ | ⟨c60, h⟩
        · obtain ⟨h61, h⟩ := guard_some h
          obtain rfl := oL h
          exact Does.of_viewM 0 400 (cs 3 (oa :: oc :: tc :: (cs 2 (oa :: oc :: (.br true) :: (cs 2 ((.op none (.i k5)) :: (.trp (.eqt (.t 20) (.int .u8 (x56.toNat : Int)))) :: (cs 2 [.op none (.i k5), .trp (.eqt (.t 23) (.int .u8 (x58.toNat : Int))), oa, .br false, oc, ow, oc]))))))) [] (by kernel_rfl) (by kernel_rfl) (k2 (decide_eq_true c54) (k2 (decide_eq_true c55) (k2 (ir h57) (k2 ((getD_u8 h57) : (.int .u8 ((List.getD s_1 k5 0).toNat : Int) : AV) = .int .u8 (x56.toNat : Int)) (k2 (ir h59) (k2 ((getD_u8 h59) : (.int .u8 ((List.getD x39 k5 0).toNat : Int) : AV) = .int .u8 (x58.toNat : Int)) (k2 (not_f (beq_t c60)) (ok1 h61))))))))
        · simp at h
      · simp at h
    · simp at h
  · revert h; revert s; intro k5 h
    unfold tollwayref07_Insert_L45_step at h
    try dsimp only at h
    rcases ite_some h with ⟨c54, h⟩ | ⟨c54, h⟩
    · rcases ite_some h with ⟨c55, h⟩ | ⟨c55, h⟩
      · obtain ⟨x56, h57, h⟩ := bind_some h
        obtain ⟨x58, h59, h⟩ := bind_some h
        rcases ite_some h with ⟨c60, h⟩ | ⟨c60, h⟩
        · obtain ⟨h61, h⟩ := guard_some h
          simp at h
        · obtain rfl := oR h
          exact ⟨Does.of_viewM 0 400 (cs 3 (oa :: oc :: tc :: (cs 2 (oa :: oc :: (.br true) :: (cs 2 ((.op none (.i k5)) :: (.trp (.eqt (.t 20) (.int .u8 (x56.toNat : Int)))) :: (cs 2 ((.op none (.i k5)) :: (.trp (.eqt (.t 23) (.int .u8 (x58.toNat : Int)))) :: oa :: (.br true) :: (cs 2 ((.op none (.i k5)) :: (.trp (.eqt (.t 27) (.int .u8 (x56.toNat : Int)))) :: (cs 2 [.op none (.i k5), .trp (.eqt (.t 30) (.int .u8 (x58.toNat : Int))), oa, oc]))))))))))) [] (by kernel_rfl) (by kernel_rfl) (k2 (decide_eq_true c54) (k2 (decide_eq_true c55) (k2 (ir h57) (k2 ((getD_u8 h57) : (.int .u8 ((List.getD s_1 k5 0).toNat : Int) : AV) = .int .u8 (x56.toNat : Int)) (k2 (ir h59) (k2 ((getD_u8 h59) : (.int .u8 ((List.getD x39 k5 0).toNat : Int) : AV) = .int .u8 (x58.toNat : Int)) (k2 (not_t (beq_f c60)) (k2 (ir h57) (k2 ((getD_u8 h57) : (.int .u8 ((List.getD s_1 k5 0).toNat : Int) : AV) = .int .u8 (x56.toNat : Int)) (k2 (ir h59) (ok1 ((getD_u8 h59) : (.int .u8 ((List.getD x39 k5 0).toNat : Int) : AV) = .int .u8 (x58.toNat : Int))))))))))))), by intro q; cases q⟩
      · obtain rfl := oR h
        exact ⟨Does.of_viewM 0 400 (cs 3 (oa :: oc :: tc :: (cs 2 [oa, oc, .br false]))) [] (by kernel_rfl) (by kernel_rfl) (k2 (decide_eq_true c54) (ok1 (decide_eq_false c55))), by intro q; cases q⟩
    · obtain rfl := oR h
      exact ⟨Does.of_viewM 0 400 (cs 3 (oa :: oc :: (.op (some false) .c) :: (cs 4 [.br false]))) [] (by kernel_rfl) (by kernel_rfl) (k2 (decide_eq_false c54) (ok1 (rfl : false = false))), by intro q; cases q⟩
noncomputable def tollwayref07_Insert_L1_step (l_0 : (List (List UInt8))) (s_1 : (List UInt8)) : (Bool × Nat × (List (List UInt8))) → Option ((Bool × Nat × (List (List UInt8))) ⊕ (Unit ⊕ (Bool × (List (List UInt8)))))
  | (v6, k7, b0) =>
    if (↑k7 : Int) < (↑l_0.length : Int) then
      (l_0[k7]?).bind fun x39 =>
      if x39 = s_1 then
        some (Sum.inr (Sum.inl ()))
      else
        if v6 = true then
          if b0.length + 1 ≤ 4294967296 then
            if InR .i64 ((↑k7 : Int) + 1) then
              some (Sum.inl (v6, (k7 + 1), (b0 ++ [x39])))
            else none
          else none
        else
          (lp (tollwayref07_Insert_L45_step s_1 x39) (0 : Nat)).bind fun qq => match qq with
          | Sum.inl o45 =>
            if o45 = true then
              if b0.length + 1 ≤ 4294967296 then
                if ((b0 ++ [s_1]).length) + 1 ≤ 4294967296 then
                  if InR .i64 ((↑k7 : Int) + 1) then
                    some (Sum.inl (true, (k7 + 1), ((b0 ++ [s_1]) ++ [x39])))
                  else none
                else none
              else none
            else
              if b0.length + 1 ≤ 4294967296 then
                if InR .i64 ((↑k7 : Int) + 1) then
                  some (Sum.inl (v6, (k7 + 1), (b0 ++ [x39])))
                else none
              else none
          | Sum.inr (o45) =>
            if (↑s_1.length : Int) < (↑x39.length : Int) then
              if b0.length + 1 ≤ 4294967296 then
                if ((b0 ++ [s_1]).length) + 1 ≤ 4294967296 then
                  if InR .i64 ((↑k7 : Int) + 1) then
                    some (Sum.inl (true, (k7 + 1), ((b0 ++ [s_1]) ++ [x39])))
                  else none
                else none
              else none
            else
              if b0.length + 1 ≤ 4294967296 then
                if InR .i64 ((↑k7 : Int) + 1) then
                  some (Sum.inl (v6, (k7 + 1), (b0 ++ [x39])))
                else none
              else none
    else
      some (Sum.inr (Sum.inr ((v6, b0))))
def tollwayref07_Insert_L1_H (l_0 : (List (List UInt8))) (s_1 : (List UInt8)) : (Bool × Nat × (List (List UInt8))) → St := fun (s : (Bool × Nat × (List (List UInt8)))) => S 49 [(0, .lst (fl e_str l_0) l_0.length), (1, .str s_1), (5, .vec 0 s.2.2.length 1), (6, .bool s.1), (7, .int .i64 (↑s.2.1 : Int))] [(bV (fl e_str s.2.2) 9)]
def tollwayref07_Insert_L1_X (l_0 : (List (List UInt8))) (s_1 : (List UInt8)) : (Unit ⊕ (Bool × (List (List UInt8)))) → AEx := fun q => match q with | Sum.inl o => .ret | Sum.inr (o) => (.exit 0)
def tollwayref07_Insert_L1_T (l_0 : (List (List UInt8))) (s_1 : (List UInt8)) : (Unit ⊕ (Bool × (List (List UInt8)))) → List (Nat × AV) := fun q => match q with | Sum.inl o => [(4, .lst (fl e_str l_0) l_0.length)] | Sum.inr (o) => [(1, .str s_1), (5, .vec 0 o.2.length 1), (6, .bool o.1)]
def tollwayref07_Insert_L1_B (l_0 : (List (List UInt8))) (s_1 : (List UInt8)) : (Unit ⊕ (Bool × (List (List UInt8)))) → List Blk := fun q => match q with | Sum.inl o => [] | Sum.inr (o) => [(bV (fl e_str o.2) 9)]
def tollwayref07_Insert_L1_E (l_0 : (List (List UInt8))) (s_1 : (List UInt8)) (q : Unit ⊕ (Bool × (List (List UInt8)))) : St := S 49 (tollwayref07_Insert_L1_T l_0 s_1 q) (tollwayref07_Insert_L1_B l_0 s_1 q)
theorem tollwayref07_Insert_L1_does (l_0 : (List (List UInt8))) (s_1 : (List UInt8)) {s : (Bool × Nat × (List (List UInt8)))} {r : Unit ⊕ (Bool × (List (List UInt8)))} (h : lp (tollwayref07_Insert_L1_step l_0 s_1) s = some r) : Does Tryz.prog G0 0 (.loop (bodyAt Tryz.prog 63 [1, 1, 1, 0, 1, 0, 0])) (tollwayref07_Insert_L1_H l_0 s_1 s) (tollwayref07_Insert_L1_X l_0 s_1 r) (tollwayref07_Insert_L1_E l_0 s_1 r) := by
  refine Does.lp (H := tollwayref07_Insert_L1_H l_0 s_1) (X := tollwayref07_Insert_L1_X l_0 s_1) (E := tollwayref07_Insert_L1_E l_0 s_1) (fun s s2 h => ?_) (fun s r h => ?_) h
  · obtain ⟨v6, k7, b0⟩ := s
    unfold tollwayref07_Insert_L1_step at h
    try dsimp only at h
    rcases ite_some h with ⟨c38, h⟩ | ⟨c38, h⟩
    · obtain ⟨x39, h40, h⟩ := bind_some h
      rcases ite_some h with ⟨c41, h⟩ | ⟨c41, h⟩
      · simp at h
      · rcases ite_some h with ⟨c42, h⟩ | ⟨c42, h⟩
        · obtain ⟨h43, h⟩ := guard_some h
          obtain ⟨h44, h⟩ := guard_some h
          obtain rfl := oL h
          exact Does.of_viewM 0 400 (cs 3 (oa :: (.br true) :: (cs 2 ((.op none (.i k7)) :: (.op none (.v [.str x39])) :: oc :: oa :: (.br false) :: (cs 3 ((.op (some false) .c) :: (cs 6 ((.br false) :: (cs 3 ((.op none (.i k7)) :: (.op none (.v [.str x39])) :: oc :: (.op none (.ap 4)) :: (.tr (.eqc 2 (fl e_str (b0 ++ [x39])))) :: (.tr (.eqt (.t 41) (.vec 2 ((b0 ++ [x39]).length) 1))) :: (cs 2 [ow, oc]))))))))))) [2] (by kernel_rfl) (by kernel_rfl) (k2 (decide_eq_true c38) (k2 (ir h40) (k2 (fl_ne (f := e_str) (z := 0) (fun _ => rfl) h40) (k2 (s_str h40) (k2 (beq_f c41) (k2 ((not_f c42) : (!v6) = false) (k2 (rfl : false = false) (k2 (ir h40) (k2 (fl_ne (f := e_str) (z := 0) (fun _ => rfl) h40) (k2 (s_str h40) (k2 ((Nat.le_of_ble_eq_true rfl) : 0 + 1 ≤ List.length ([.str x39] : List AV)) (k2 ((fl_length1 (f := e_str) (fun _ => rfl) _) : List.length ((fl e_str b0) : List AV) = b0.length) (k2 (rfl : List.all ([.str x39] : List AV) AV.one = true) (k2 h43 (k2 ((fl_snoc rfl) : (fl e_str b0) ++ [.str x39] = (fl e_str (b0 ++ [x39]))) (k2 ((by simp <;> omega) : (.vec 2 (b0.length + 1) 1 : AV) = .vec 2 ((b0 ++ [x39]).length) 1) (ok1 h44)))))))))))))))))
        · obtain ⟨qq, hl45, h⟩ := bind_some h
          rcases qq with o45 | o45
          · dsimp only at h
            rcases ite_some h with ⟨c62, h⟩ | ⟨c62, h⟩
            · obtain ⟨h63, h⟩ := guard_some h
              obtain ⟨h64, h⟩ := guard_some h
              obtain ⟨h65, h⟩ := guard_some h
              obtain rfl := oL h
              exact Does.of_viewM 0 400 (cs 3 (oa :: (.br true) :: (cs 2 ((.op none (.i k7)) :: (.op none (.v [.str x39])) :: oc :: oa :: (.br false) :: (cs 3 (tc :: (cs 2 ((.op none (.i k7)) :: (.op none (.v [.str x39])) :: (cs 3 ((.fcut 0 .ret [(4, .bool o45)] [] [] [(0, .any), (1, .any), (5, .int .i64 (↑(0 : Nat) : Int))] []) :: oc :: (.br true) :: (cs 3 ((.op none (.ap 4)) :: (.tr (.eqc 2 (fl e_str (b0 ++ [s_1])))) :: (.tr (.eqt (.t 34) (.vec 2 ((b0 ++ [s_1]).length) 1))) :: (cs 5 ((.op none (.i k7)) :: (.op none (.v [.str x39])) :: oc :: (.op none (.ap 4)) :: (.tr (.eqc 4 (fl e_str ((b0 ++ [s_1]) ++ [x39])))) :: (.tr (.eqt (.t 41) (.vec 4 (((b0 ++ [s_1]) ++ [x39]).length) 1))) :: (cs 2 [ow, oc]))))))))))))))) [4] (by kernel_rfl) (by kernel_rfl) (k2 (decide_eq_true c38) (k2 (ir h40) (k2 (fl_ne (f := e_str) (z := 0) (fun _ => rfl) h40) (k2 (s_str h40) (k2 (beq_f c41) (k2 ((not_t (eq_false_of_ne_true c42)) : (!v6) = true) (k2 (ir h40) (k2 (fl_ne (f := e_str) (z := 0) (fun _ => rfl) h40) (k2 (s_str h40) (k2 (rfl : (.int .i64 0 : AV) = .int .i64 (↑(0 : Nat) : Int)) (k2 (tollwayref07_Insert_L45_does s_1 x39 (s := (0 : Nat)) (r := Sum.inl o45) hl45) (k2 c62 (k2 ((Nat.le_of_ble_eq_true rfl) : 0 + 1 ≤ List.length ([.str s_1] : List AV)) (k2 ((fl_length1 (f := e_str) (fun _ => rfl) _) : List.length ((fl e_str b0) : List AV) = b0.length) (k2 (rfl : List.all ([.str s_1] : List AV) AV.one = true) (k2 h63 (k2 ((fl_snoc rfl) : (fl e_str b0) ++ [.str s_1] = (fl e_str (b0 ++ [s_1]))) (k2 ((by simp <;> omega) : (.vec 2 (b0.length + 1) 1 : AV) = .vec 2 ((b0 ++ [s_1]).length) 1) (k2 (ir h40) (k2 (fl_ne (f := e_str) (z := 0) (fun _ => rfl) h40) (k2 (s_str h40) (k2 ((Nat.le_of_ble_eq_true rfl) : 0 + 1 ≤ List.length ([.str x39] : List AV)) (k2 ((fl_length1 (f := e_str) (fun _ => rfl) _) : List.length ((fl e_str (b0 ++ [s_1])) : List AV) = ((b0 ++ [s_1]).length)) (k2 (rfl : List.all ([.str x39] : List AV) AV.one = true) (k2 h64 (k2 ((fl_snoc rfl) : (fl e_str (b0 ++ [s_1])) ++ [.str x39] = (fl e_str ((b0 ++ [s_1]) ++ [x39]))) (k2 ((by simp <;> omega) : (.vec 4 (((b0 ++ [s_1]).length) + 1) 1 : AV) = .vec 4 (((b0 ++ [s_1]) ++ [x39]).length) 1) (ok1 h65))))))))))))))))))))))))))))
            · obtain ⟨h66, h⟩ := guard_some h
              obtain ⟨h67, h⟩ := guard_some h
              obtain rfl := oL h
              exact Does.of_viewM 0 400 (cs 3 (oa :: (.br true) :: (cs 2 ((.op none (.i k7)) :: (.op none (.v [.str x39])) :: oc :: oa :: (.br false) :: (cs 3 (tc :: (cs 2 ((.op none (.i k7)) :: (.op none (.v [.str x39])) :: (cs 3 ((.fcut 0 .ret [(4, .bool o45)] [] [] [(0, .any), (1, .any), (5, .int .i64 (↑(0 : Nat) : Int))] []) :: oc :: (.br false) :: (cs 3 ((.op none (.i k7)) :: (.op none (.v [.str x39])) :: oc :: (.op none (.ap 4)) :: (.tr (.eqc 2 (fl e_str (b0 ++ [x39])))) :: (.tr (.eqt (.t 41) (.vec 2 ((b0 ++ [x39]).length) 1))) :: (cs 2 [ow, oc]))))))))))))) [2] (by kernel_rfl) (by kernel_rfl) (k2 (decide_eq_true c38) (k2 (ir h40) (k2 (fl_ne (f := e_str) (z := 0) (fun _ => rfl) h40) (k2 (s_str h40) (k2 (beq_f c41) (k2 ((not_t (eq_false_of_ne_true c42)) : (!v6) = true) (k2 (ir h40) (k2 (fl_ne (f := e_str) (z := 0) (fun _ => rfl) h40) (k2 (s_str h40) (k2 (rfl : (.int .i64 0 : AV) = .int .i64 (↑(0 : Nat) : Int)) (k2 (tollwayref07_Insert_L45_does s_1 x39 (s := (0 : Nat)) (r := Sum.inl o45) hl45) (k2 ((eq_false_of_ne_true c62) : o45 = false) (k2 (ir h40) (k2 (fl_ne (f := e_str) (z := 0) (fun _ => rfl) h40) (k2 (s_str h40) (k2 ((Nat.le_of_ble_eq_true rfl) : 0 + 1 ≤ List.length ([.str x39] : List AV)) (k2 ((fl_length1 (f := e_str) (fun _ => rfl) _) : List.length ((fl e_str b0) : List AV) = b0.length) (k2 (rfl : List.all ([.str x39] : List AV) AV.one = true) (k2 h66 (k2 ((fl_snoc rfl) : (fl e_str b0) ++ [.str x39] = (fl e_str (b0 ++ [x39]))) (k2 ((by simp <;> omega) : (.vec 2 (b0.length + 1) 1 : AV) = .vec 2 ((b0 ++ [x39]).length) 1) (ok1 h67))))))))))))))))))))))
          · dsimp only at h
            rcases ite_some h with ⟨c68, h⟩ | ⟨c68, h⟩
            · obtain ⟨h69, h⟩ := guard_some h
              obtain ⟨h70, h⟩ := guard_some h
              obtain ⟨h71, h⟩ := guard_some h
              obtain rfl := oL h
              exact Does.of_viewM 0 400 (cs 3 (oa :: (.br true) :: (cs 2 ((.op none (.i k7)) :: (.op none (.v [.str x39])) :: oc :: oa :: (.br false) :: (cs 3 (tc :: (cs 2 ((.op none (.i k7)) :: (.op none (.v [.str x39])) :: (cs 3 ((.fcut 0 (.exit 0) [(0, .str s_1), (1, .str x39)] [] [] [(0, .any), (1, .any), (5, .int .i64 (↑(0 : Nat) : Int))] []) :: (cs 4 (oa :: (cs 2 ((.br true) :: (cs 3 ((.op none (.ap 4)) :: (.tr (.eqc 2 (fl e_str (b0 ++ [s_1])))) :: (.tr (.eqt (.t 34) (.vec 2 ((b0 ++ [s_1]).length) 1))) :: (cs 5 ((.op none (.i k7)) :: (.op none (.v [.str x39])) :: oc :: (.op none (.ap 4)) :: (.tr (.eqc 4 (fl e_str ((b0 ++ [s_1]) ++ [x39])))) :: (.tr (.eqt (.t 41) (.vec 4 (((b0 ++ [s_1]) ++ [x39]).length) 1))) :: (cs 2 [ow, oc]))))))))))))))))))) [4] (by kernel_rfl) (by kernel_rfl) (k2 (decide_eq_true c38) (k2 (ir h40) (k2 (fl_ne (f := e_str) (z := 0) (fun _ => rfl) h40) (k2 (s_str h40) (k2 (beq_f c41) (k2 ((not_t (eq_false_of_ne_true c42)) : (!v6) = true) (k2 (ir h40) (k2 (fl_ne (f := e_str) (z := 0) (fun _ => rfl) h40) (k2 (s_str h40) (k2 (rfl : (.int .i64 0 : AV) = .int .i64 (↑(0 : Nat) : Int)) (k2 (tollwayref07_Insert_L45_does s_1 x39 (s := (0 : Nat)) (r := Sum.inr (o45)) hl45) (k2 (decide_eq_true c68) (k2 ((Nat.le_of_ble_eq_true rfl) : 0 + 1 ≤ List.length ([.str s_1] : List AV)) (k2 ((fl_length1 (f := e_str) (fun _ => rfl) _) : List.length ((fl e_str b0) : List AV) = b0.length) (k2 (rfl : List.all ([.str s_1] : List AV) AV.one = true) (k2 h69 (k2 ((fl_snoc rfl) : (fl e_str b0) ++ [.str s_1] = (fl e_str (b0 ++ [s_1]))) (k2 ((by simp <;> omega) : (.vec 2 (b0.length + 1) 1 : AV) = .vec 2 ((b0 ++ [s_1]).length) 1) (k2 (ir h40) (k2 (fl_ne (f := e_str) (z := 0) (fun _ => rfl) h40) (k2 (s_str h40) (k2 ((Nat.le_of_ble_eq_true rfl) : 0 + 1 ≤ List.length ([.str x39] : List AV)) (k2 ((fl_length1 (f := e_str) (fun _ => rfl) _) : List.length ((fl e_str (b0 ++ [s_1])) : List AV) = ((b0 ++ [s_1]).length)) (k2 (rfl : List.all ([.str x39] : List AV) AV.one = true) (k2 h70 (k2 ((fl_snoc rfl) : (fl e_str (b0 ++ [s_1])) ++ [.str x39] = (fl e_str ((b0 ++ [s_1]) ++ [x39]))) (k2 ((by simp <;> omega) : (.vec 4 (((b0 ++ [s_1]).length) + 1) 1 : AV) = .vec 4 (((b0 ++ [s_1]) ++ [x39]).length) 1) (ok1 h71))))))))))))))))))))))))))))
            · obtain ⟨h72, h⟩ := guard_some h
              obtain ⟨h73, h⟩ := guard_some h
              obtain rfl := oL h
              exact Does.of_viewM 0 400 (cs 3 (oa :: (.br true) :: (cs 2 ((.op none (.i k7)) :: (.op none (.v [.str x39])) :: oc :: oa :: (.br false) :: (cs 3 (tc :: (cs 2 ((.op none (.i k7)) :: (.op none (.v [.str x39])) :: (cs 3 ((.fcut 0 (.exit 0) [(0, .str s_1), (1, .str x39)] [] [] [(0, .any), (1, .any), (5, .int .i64 (↑(0 : Nat) : Int))] []) :: (cs 4 (oa :: (cs 2 ((.br false) :: (cs 3 ((.op none (.i k7)) :: (.op none (.v [.str x39])) :: oc :: (.op none (.ap 4)) :: (.tr (.eqc 2 (fl e_str (b0 ++ [x39])))) :: (.tr (.eqt (.t 41) (.vec 2 ((b0 ++ [x39]).length) 1))) :: (cs 2 [ow, oc]))))))))))))))))) [2] (by kernel_rfl) (by kernel_rfl) (k2 (decide_eq_true c38) (k2 (ir h40) (k2 (fl_ne (f := e_str) (z := 0) (fun _ => rfl) h40) (k2 (s_str h40) (k2 (beq_f c41) (k2 ((not_t (eq_false_of_ne_true c42)) : (!v6) = true) (k2 (ir h40) (k2 (fl_ne (f := e_str) (z := 0) (fun _ => rfl) h40) (k2 (s_str h40) (k2 (rfl : (.int .i64 0 : AV) = .int .i64 (↑(0 : Nat) : Int)) (k2 (tollwayref07_Insert_L45_does s_1 x39 (s := (0 : Nat)) (r := Sum.inr (o45)) hl45) (k2 (decide_eq_false c68) (k2 (ir h40) (k2 (fl_ne (f := e_str) (z := 0) (fun _ => rfl) h40) (k2 (s_str h40) (k2 ((Nat.le_of_ble_eq_true rfl) : 0 + 1 ≤ List.length ([.str x39] : List AV)) (k2 ((fl_length1 (f := e_str) (fun _ => rfl) _) : List.length ((fl e_str b0) : List AV) = b0.length) (k2 (rfl : List.all ([.str x39] : List AV) AV.one = true) (k2 h72 (k2 ((fl_snoc rfl) : (fl e_str b0) ++ [.str x39] = (fl e_str (b0 ++ [x39]))) (k2 ((by simp <;> omega) : (.vec 2 (b0.length + 1) 1 : AV) = .vec 2 ((b0 ++ [x39]).length) 1) (ok1 h73))))))))))))))))))))))
    · simp at h
  · obtain ⟨v6, k7, b0⟩ := s
    unfold tollwayref07_Insert_L1_step at h
    try dsimp only at h
    rcases ite_some h with ⟨c38, h⟩ | ⟨c38, h⟩
    · obtain ⟨x39, h40, h⟩ := bind_some h
      rcases ite_some h with ⟨c41, h⟩ | ⟨c41, h⟩
      · obtain rfl := oR h
        exact ⟨Does.of_viewM 0 400 (cs 3 (oa :: (.br true) :: (cs 2 ((.op none (.i k7)) :: (.op none (.v [.str x39])) :: oc :: oa :: (.br true) :: (cs 2 []))))) [] (by kernel_rfl) (by kernel_rfl) (k2 (decide_eq_true c38) (k2 (ir h40) (k2 (fl_ne (f := e_str) (z := 0) (fun _ => rfl) h40) (k2 (s_str h40) (ok1 (beq_t c41)))))), by intro q; cases q⟩
      · rcases ite_some h with ⟨c42, h⟩ | ⟨c42, h⟩
        · obtain ⟨h43, h⟩ := guard_some h
          obtain ⟨h44, h⟩ := guard_some h
          simp at h
        · obtain ⟨qq, hl45, h⟩ := bind_some h
          rcases qq with o45 | o45
          · dsimp only at h
            rcases ite_some h with ⟨c62, h⟩ | ⟨c62, h⟩
            · obtain ⟨h63, h⟩ := guard_some h
              obtain ⟨h64, h⟩ := guard_some h
              obtain ⟨h65, h⟩ := guard_some h
              simp at h
            · obtain ⟨h66, h⟩ := guard_some h
              obtain ⟨h67, h⟩ := guard_some h
              simp at h
          · dsimp only at h
            rcases ite_some h with ⟨c68, h⟩ | ⟨c68, h⟩
            · obtain ⟨h69, h⟩ := guard_some h
              obtain ⟨h70, h⟩ := guard_some h
              obtain ⟨h71, h⟩ := guard_some h
              simp at h
            · obtain ⟨h72, h⟩ := guard_some h
              obtain ⟨h73, h⟩ := guard_some h
              simp at h
    · obtain rfl := oR h
      exact ⟨Does.of_viewM 0 400 (cs 3 [oa, .br false]) [0] (by kernel_rfl) (by kernel_rfl) (ok1 (decide_eq_false c38)), by intro q; cases q⟩
noncomputable def tollwayref07_Insert (l_0 : (List (List UInt8))) (s_1 : (List UInt8)) : Option (List (List UInt8)) :=
  (lp (tollwayref07_Insert_L1_step l_0 s_1) (false, (0 : Nat), ([] : (List (List UInt8))))).bind fun qq => match qq with
  | Sum.inl o1 =>
    some l_0
  | Sum.inr (o1) =>
    if o1.1 = true then
      some o1.2
    else
      if o1.2.length + 1 ≤ 4294967296 then
        some (o1.2 ++ [s_1])
      else none
theorem tollwayref07_Insert_ret (l_0 : (List (List UInt8))) (s_1 : (List UInt8)) (r : (List (List UInt8))) (h : tollwayref07_Insert l_0 s_1 = some r) : Ret Tryz.prog G0 63 [.lst (fl e_str l_0) l_0.length, .str s_1] (.lst (fl e_str r) r.length) [] := by
  unfold tollwayref07_Insert at h
  obtain ⟨qq, hl1, h⟩ := bind_some h
  rcases qq with o1 | o1
  · dsimp only at h
    obtain rfl := oI h
    exact Ret.of_view 400 (cs 4 [.tr (.vec (.t 5) 1 9), .fcut 0 .ret [(4, .lst (fl e_str l_0) l_0.length)] [] [0] [(0, .any), (1, .any), (5, .vec 0 (([] : (List (List UInt8))).length) 1), (6, .any), (7, .int .i64 (↑(0 : Nat) : Int))] [(bV (fl e_str ([] : (List (List UInt8)))) 9)]]) [] (by kernel_rfl) (by kernel_rfl) (k2 ((by first | rfl | simp only [List.length_replicate, List.length_set]) : (.vec 0 0 1 : AV) = .vec 0 (([] : (List (List UInt8))).length) 1) (k2 (rfl : (.int .i64 0 : AV) = .int .i64 (↑(0 : Nat) : Int)) (k2 (rfl : ((bV [] 9) : Blk) = renB [0] (bV (fl e_str ([] : (List (List UInt8)))) 9)) (ok1 (tollwayref07_Insert_L1_does l_0 s_1 (s := (false, (0 : Nat), ([] : (List (List UInt8))))) (r := Sum.inl o1) hl1)))))
  · dsimp only at h
    rcases ite_some h with ⟨c74, h⟩ | ⟨c74, h⟩
    · obtain rfl := oI h
      exact Ret.of_view 400 (cs 4 ((.tr (.vec (.t 5) 1 9)) :: (.fcut 0 (.exit 0) (tollwayref07_Insert_L1_T l_0 s_1 (Sum.inr (o1))) [(bV (fl e_str o1.2) 9)] [0] [(0, .any), (1, .any), (5, .vec 0 (([] : (List (List UInt8))).length) 1), (6, .any), (7, .int .i64 (↑(0 : Nat) : Int))] [(bV (fl e_str ([] : (List (List UInt8)))) 9)]) :: (cs 2 ((.br false) :: (cs 2 [.tr (.frz [.t 5, .t 48, .t 4] (fl e_str o1.2) o1.2.length)]))))) [] (by kernel_rfl) (by kernel_rfl) (k2 ((by first | rfl | simp only [List.length_replicate, List.length_set]) : (.vec 0 0 1 : AV) = .vec 0 (([] : (List (List UInt8))).length) 1) (k2 (rfl : (.int .i64 0 : AV) = .int .i64 (↑(0 : Nat) : Int)) (k2 (rfl : ((bV [] 9) : Blk) = renB [0] (bV (fl e_str ([] : (List (List UInt8)))) 9)) (k2 (tollwayref07_Insert_L1_does l_0 s_1 (s := (false, (0 : Nat), ([] : (List (List UInt8))))) (r := Sum.inr (o1)) hl1) (k2 ((not_f c74) : (!o1.1) = false) (k2 (⟨rfl, rfl, rfl, (fl_length1 (f := e_str) (fun _ => rfl) _)⟩ : 1 = 1 ∧ (fl e_str o1.2) = (fl e_str o1.2) ∧ o1.2.length = o1.2.length ∧ List.length ((fl e_str o1.2) : List AV) = o1.2.length) (k2 (⟨rfl, rfl, rfl, (fl_length1 (f := e_str) (fun _ => rfl) _)⟩ : 1 = 1 ∧ (fl e_str o1.2) = (fl e_str o1.2) ∧ o1.2.length = o1.2.length ∧ List.length ((fl e_str o1.2) : List AV) = o1.2.length) (ok1 (⟨rfl, rfl, rfl, (fl_length1 (f := e_str) (fun _ => rfl) _)⟩ : 1 = 1 ∧ (fl e_str o1.2) = (fl e_str o1.2) ∧ o1.2.length = o1.2.length ∧ List.length ((fl e_str o1.2) : List AV) = o1.2.length)))))))))
    · obtain ⟨h75, h⟩ := guard_some h
      obtain rfl := oI h
      exact Ret.of_view 400 (cs 4 ((.tr (.vec (.t 5) 1 9)) :: (.fcut 0 (.exit 0) (tollwayref07_Insert_L1_T l_0 s_1 (Sum.inr (o1))) [(bV (fl e_str o1.2) 9)] [0] [(0, .any), (1, .any), (5, .vec 0 (([] : (List (List UInt8))).length) 1), (6, .any), (7, .int .i64 (↑(0 : Nat) : Int))] [(bV (fl e_str ([] : (List (List UInt8)))) 9)]) :: (cs 2 ((.br true) :: (cs 3 ((.op none (.ap 4)) :: (.tr (.eqc 3 (fl e_str (o1.2 ++ [s_1])))) :: (.tr (.eqt (.t 47) (.vec 3 ((o1.2 ++ [s_1]).length) 1))) :: (cs 3 [.tr (.frz [.t 5, .t 47, .t 48, .t 4] (fl e_str (o1.2 ++ [s_1])) ((o1.2 ++ [s_1]).length))]))))))) [] (by kernel_rfl) (by kernel_rfl) (k2 ((by first | rfl | simp only [List.length_replicate, List.length_set]) : (.vec 0 0 1 : AV) = .vec 0 (([] : (List (List UInt8))).length) 1) (k2 (rfl : (.int .i64 0 : AV) = .int .i64 (↑(0 : Nat) : Int)) (k2 (rfl : ((bV [] 9) : Blk) = renB [0] (bV (fl e_str ([] : (List (List UInt8)))) 9)) (k2 (tollwayref07_Insert_L1_does l_0 s_1 (s := (false, (0 : Nat), ([] : (List (List UInt8))))) (r := Sum.inr (o1)) hl1) (k2 ((not_t (eq_false_of_ne_true c74)) : (!o1.1) = true) (k2 ((Nat.le_of_ble_eq_true rfl) : 0 + 1 ≤ List.length ([.str s_1] : List AV)) (k2 ((fl_length1 (f := e_str) (fun _ => rfl) _) : List.length ((fl e_str o1.2) : List AV) = o1.2.length) (k2 (rfl : List.all ([.str s_1] : List AV) AV.one = true) (k2 h75 (k2 ((fl_snoc rfl) : (fl e_str o1.2) ++ [.str s_1] = (fl e_str (o1.2 ++ [s_1]))) (k2 ((by simp <;> omega) : (.vec 3 (o1.2.length + 1) 1 : AV) = .vec 3 ((o1.2 ++ [s_1]).length) 1) (k2 (⟨rfl, rfl, rfl, (fl_length1 (f := e_str) (fun _ => rfl) _)⟩ : 3 = 3 ∧ (fl e_str (o1.2 ++ [s_1])) = (fl e_str (o1.2 ++ [s_1])) ∧ ((o1.2 ++ [s_1]).length) = ((o1.2 ++ [s_1]).length) ∧ List.length ((fl e_str (o1.2 ++ [s_1])) : List AV) = ((o1.2 ++ [s_1]).length)) (k2 (⟨rfl, rfl, rfl, (fl_length1 (f := e_str) (fun _ => rfl) _)⟩ : 3 = 3 ∧ (fl e_str (o1.2 ++ [s_1])) = (fl e_str (o1.2 ++ [s_1])) ∧ ((o1.2 ++ [s_1]).length) = ((o1.2 ++ [s_1]).length) ∧ List.length ((fl e_str (o1.2 ++ [s_1])) : List AV) = ((o1.2 ++ [s_1]).length)) (k2 (⟨rfl, rfl, rfl, (fl_length1 (f := e_str) (fun _ => rfl) _)⟩ : 3 = 3 ∧ (fl e_str (o1.2 ++ [s_1])) = (fl e_str (o1.2 ++ [s_1])) ∧ ((o1.2 ++ [s_1]).length) = ((o1.2 ++ [s_1]).length) ∧ List.length ((fl e_str (o1.2 ++ [s_1])) : List AV) = ((o1.2 ++ [s_1]).length)) (ok1 (⟨rfl, rfl, rfl, (fl_length1 (f := e_str) (fun _ => rfl) _)⟩ : 3 = 3 ∧ (fl e_str (o1.2 ++ [s_1])) = (fl e_str (o1.2 ++ [s_1])) ∧ ((o1.2 ++ [s_1]).length) = ((o1.2 ++ [s_1]).length) ∧ List.length ((fl e_str (o1.2 ++ [s_1])) : List AV) = ((o1.2 ++ [s_1]).length)))))))))))))))))
noncomputable def tollwayref50_Keys_L1_step (a_0 : (List Tapi_Charge)) (b_1 : (List Tapi_Charge)) : ((List (List UInt8)) × Nat) → Option (((List (List UInt8)) × Nat) ⊕ (List (List UInt8)))
  | (v5, k6) =>
    if (↑k6 : Int) < (↑a_0.length : Int) then
      (a_0[k6]?).bind fun x9 =>
      (tollwayref07_Insert v5 x9.Key).bind fun r11 =>
      if InR .i64 ((↑k6 : Int) + 1) then
        some (Sum.inl (r11, (k6 + 1)))
      else none
    else
      some (Sum.inr v5)
def tollwayref50_Keys_L1_H (a_0 : (List Tapi_Charge)) (b_1 : (List Tapi_Charge)) : ((List (List UInt8)) × Nat) → St := fun (s : ((List (List UInt8)) × Nat)) => S 35 [(0, .lst (fl Tapi_Charge.enc a_0) a_0.length), (1, .lst (fl Tapi_Charge.enc b_1) b_1.length), (5, .lst (fl e_str s.1) s.1.length), (6, .int .i64 (↑s.2 : Int))] []
def tollwayref50_Keys_L1_X (a_0 : (List Tapi_Charge)) (b_1 : (List Tapi_Charge)) : (List (List UInt8)) → AEx := fun o => (.exit 0)
def tollwayref50_Keys_L1_T (a_0 : (List Tapi_Charge)) (b_1 : (List Tapi_Charge)) : (List (List UInt8)) → List (Nat × AV) := fun o => [(1, .lst (fl Tapi_Charge.enc b_1) b_1.length), (5, .lst (fl e_str o) o.length)]
def tollwayref50_Keys_L1_B (a_0 : (List Tapi_Charge)) (b_1 : (List Tapi_Charge)) : (List (List UInt8)) → List Blk := fun o => []
def tollwayref50_Keys_L1_E (a_0 : (List Tapi_Charge)) (b_1 : (List Tapi_Charge)) (q : (List (List UInt8))) : St := S 35 (tollwayref50_Keys_L1_T a_0 b_1 q) (tollwayref50_Keys_L1_B a_0 b_1 q)
theorem tollwayref50_Keys_L1_does (a_0 : (List Tapi_Charge)) (b_1 : (List Tapi_Charge)) {s : ((List (List UInt8)) × Nat)} {r : (List (List UInt8))} (h : lp (tollwayref50_Keys_L1_step a_0 b_1) s = some r) : Does Tryz.prog G0 0 (.loop (bodyAt Tryz.prog 38 [1, 1, 0, 1, 0, 0])) (tollwayref50_Keys_L1_H a_0 b_1 s) (tollwayref50_Keys_L1_X a_0 b_1 r) (tollwayref50_Keys_L1_E a_0 b_1 r) := by
  refine Does.lp (H := tollwayref50_Keys_L1_H a_0 b_1) (X := tollwayref50_Keys_L1_X a_0 b_1) (E := tollwayref50_Keys_L1_E a_0 b_1) (fun s s2 h => ?_) (fun s r h => ?_) h
  · obtain ⟨v5, k6⟩ := s
    unfold tollwayref50_Keys_L1_step at h
    try dsimp only at h
    rcases ite_some h with ⟨c8, h⟩ | ⟨c8, h⟩
    · obtain ⟨x9, h10, h⟩ := bind_some h
      obtain ⟨r11, h12, h⟩ := bind_some h
      obtain ⟨h13, h⟩ := guard_some h
      obtain rfl := oL h
      exact Does.of_viewM 0 400 (cs 3 (oa :: (.br true) :: (cs 3 ((.op none (.i k6)) :: oc :: (.op none (.v [.str x9.Key])) :: (.ret none [.any, .any] (.lst (fl e_str r11) r11.length) []) :: (cs 2 [ow, oc]))))) [] (by kernel_rfl) (by kernel_rfl) (k2 (decide_eq_true c8) (k2 (ir h10) (k2 (fl_ne (f := Tapi_Charge.enc) (z := 6) (fun _ => rfl) h10) (k2 (fl_sub (f := Tapi_Charge.enc) (z := 7) (j := k6) (a := 0) (n := 1) (fun _ => rfl) h10 (by decide) rfl) (k2 (tollwayref07_Insert_ret v5 x9.Key r11 h12) (ok1 h13))))))
    · simp at h
  · obtain ⟨v5, k6⟩ := s
    unfold tollwayref50_Keys_L1_step at h
    try dsimp only at h
    rcases ite_some h with ⟨c8, h⟩ | ⟨c8, h⟩
    · obtain ⟨x9, h10, h⟩ := bind_some h
      obtain ⟨r11, h12, h⟩ := bind_some h
      obtain ⟨h13, h⟩ := guard_some h
      simp at h
    · obtain rfl := oR h
      exact ⟨Does.of_viewM 0 400 (cs 3 [oa, .br false]) [] (by kernel_rfl) (by kernel_rfl) (ok1 (decide_eq_false c8)), by intro q; cases q⟩
noncomputable def tollwayref50_Keys_L14_step (b_1 : (List Tapi_Charge)) : ((List (List UInt8)) × Nat) → Option (((List (List UInt8)) × Nat) ⊕ (List (List UInt8)))
  | (v5, k7) =>
    if (↑k7 : Int) < (↑b_1.length : Int) then
      (b_1[k7]?).bind fun x22 =>
      (tollwayref07_Insert v5 x22.Key).bind fun r24 =>
      if InR .i64 ((↑k7 : Int) + 1) then
        some (Sum.inl (r24, (k7 + 1)))
      else none
    else
      some (Sum.inr v5)
def tollwayref50_Keys_L14_H (b_1 : (List Tapi_Charge)) : ((List (List UInt8)) × Nat) → St := fun (s : ((List (List UInt8)) × Nat)) => S 35 [(1, .lst (fl Tapi_Charge.enc b_1) b_1.length), (5, .lst (fl e_str s.1) s.1.length), (7, .int .i64 (↑s.2 : Int))] []
def tollwayref50_Keys_L14_X (b_1 : (List Tapi_Charge)) : (List (List UInt8)) → AEx := fun o => (.exit 2)
def tollwayref50_Keys_L14_T (b_1 : (List Tapi_Charge)) : (List (List UInt8)) → List (Nat × AV) := fun o => [(5, .lst (fl e_str o) o.length)]
def tollwayref50_Keys_L14_B (b_1 : (List Tapi_Charge)) : (List (List UInt8)) → List Blk := fun o => []
def tollwayref50_Keys_L14_E (b_1 : (List Tapi_Charge)) (q : (List (List UInt8))) : St := S 35 (tollwayref50_Keys_L14_T b_1 q) (tollwayref50_Keys_L14_B b_1 q)
theorem tollwayref50_Keys_L14_does (b_1 : (List Tapi_Charge)) {s : ((List (List UInt8)) × Nat)} {r : (List (List UInt8))} (h : lp (tollwayref50_Keys_L14_step b_1) s = some r) : Does Tryz.prog G0 0 (.loop (bodyAt Tryz.prog 38 [1, 1, 1, 0, 1, 0, 0])) (tollwayref50_Keys_L14_H b_1 s) (tollwayref50_Keys_L14_X b_1 r) (tollwayref50_Keys_L14_E b_1 r) := by
  refine Does.lp (H := tollwayref50_Keys_L14_H b_1) (X := tollwayref50_Keys_L14_X b_1) (E := tollwayref50_Keys_L14_E b_1) (fun s s2 h => ?_) (fun s r h => ?_) h
  · obtain ⟨v5, k7⟩ := s
    unfold tollwayref50_Keys_L14_step at h
    try dsimp only at h
    rcases ite_some h with ⟨c21, h⟩ | ⟨c21, h⟩
    · obtain ⟨x22, h23, h⟩ := bind_some h
      obtain ⟨r24, h25, h⟩ := bind_some h
      obtain ⟨h26, h⟩ := guard_some h
      obtain rfl := oL h
      exact Does.of_viewM 0 400 (cs 3 (oa :: (.br true) :: (cs 3 ((.op none (.i k7)) :: oc :: (.op none (.v [.str x22.Key])) :: (.ret none [.any, .any] (.lst (fl e_str r24) r24.length) []) :: (cs 2 [ow, oc]))))) [] (by kernel_rfl) (by kernel_rfl) (k2 (decide_eq_true c21) (k2 (ir h23) (k2 (fl_ne (f := Tapi_Charge.enc) (z := 6) (fun _ => rfl) h23) (k2 (fl_sub (f := Tapi_Charge.enc) (z := 7) (j := k7) (a := 0) (n := 1) (fun _ => rfl) h23 (by decide) rfl) (k2 (tollwayref07_Insert_ret v5 x22.Key r24 h25) (ok1 h26))))))
    · simp at h
  · obtain ⟨v5, k7⟩ := s
    unfold tollwayref50_Keys_L14_step at h
    try dsimp only at h
    rcases ite_some h with ⟨c21, h⟩ | ⟨c21, h⟩
    · obtain ⟨x22, h23, h⟩ := bind_some h
      obtain ⟨r24, h25, h⟩ := bind_some h
      obtain ⟨h26, h⟩ := guard_some h
      simp at h
    · obtain rfl := oR h
      exact ⟨Does.of_viewM 0 400 (cs 3 [oa, .br false]) [] (by kernel_rfl) (by kernel_rfl) (ok1 (decide_eq_false c21)), by intro q; cases q⟩
noncomputable def tollwayref50_Keys (a_0 : (List Tapi_Charge)) (b_1 : (List Tapi_Charge)) : Option (List (List UInt8)) :=
  (lp (tollwayref50_Keys_L1_step a_0 b_1) (([] : (List (List UInt8))), (0 : Nat))).bind fun o1 =>
  (lp (tollwayref50_Keys_L14_step b_1) (o1, (0 : Nat))).bind fun o14 =>
  some o14
theorem tollwayref50_Keys_ret (a_0 : (List Tapi_Charge)) (b_1 : (List Tapi_Charge)) (r : (List (List UInt8))) (h : tollwayref50_Keys a_0 b_1 = some r) : Ret Tryz.prog G0 38 [.lst (fl Tapi_Charge.enc a_0) a_0.length, .lst (fl Tapi_Charge.enc b_1) b_1.length] (.lst (fl e_str r) r.length) [] := by
  unfold tollwayref50_Keys at h
  obtain ⟨o1, hl1, h⟩ := bind_some h
  obtain ⟨o14, hl14, h⟩ := bind_some h
  obtain rfl := oI h
  exact Ret.of_view 400 (cs 3 ((.tr (.nl (.t 5))) :: (.fcut 0 (.exit 0) (tollwayref50_Keys_L1_T a_0 b_1 o1) [] [] [(0, .any), (1, .any), (5, .lst (fl e_str ([] : (List (List UInt8)))) (([] : (List (List UInt8))).length)), (6, .int .i64 (↑(0 : Nat) : Int))] []) :: oc :: (.fcut 0 (.exit 2) (tollwayref50_Keys_L14_T b_1 o14) [] [] [(1, .any), (5, .any), (7, .int .i64 (↑(0 : Nat) : Int))] []) :: (cs 2 []))) [] (by kernel_rfl) (by kernel_rfl) (k2 (rfl : (.lst [] 0 : AV) = .lst (fl e_str ([] : (List (List UInt8)))) (([] : (List (List UInt8))).length)) (k2 (rfl : (.int .i64 0 : AV) = .int .i64 (↑(0 : Nat) : Int)) (k2 (tollwayref50_Keys_L1_does a_0 b_1 (s := (([] : (List (List UInt8))), (0 : Nat))) (r := o1) hl1) (k2 (rfl : (.int .i64 0 : AV) = .int .i64 (↑(0 : Nat) : Int)) (ok1 (tollwayref50_Keys_L14_does b_1 (s := (o1, (0 : Nat))) (r := o14) hl14))))))
noncomputable def tollwayref50_SameFindings_L2_step (a_0 : (List Tapi_Finding)) (b_1 : (List Tapi_Finding)) : Nat → Option (Nat ⊕ (Unit ⊕ Unit)) := fun k5 =>
  if (↑k5 : Int) < (↑a_0.length : Int) then
    (a_0[k5]?).bind fun x14 =>
    (b_1[k5]?).bind fun x16 =>
    if x14.Key = x16.Key then
      if x14.Day = x16.Day then
        if x14.Have = x16.Have then
          if x14.Want = x16.Want then
            if InR .i64 ((↑k5 : Int) + 1) then
              some (Sum.inl (k5 + 1))
            else none
          else
            some (Sum.inr (Sum.inl ()))
        else
          some (Sum.inr (Sum.inl ()))
      else
        some (Sum.inr (Sum.inl ()))
    else
      some (Sum.inr (Sum.inl ()))
  else
    some (Sum.inr (Sum.inr (())))
def tollwayref50_SameFindings_L2_H (a_0 : (List Tapi_Finding)) (b_1 : (List Tapi_Finding)) : Nat → St := fun (s : Nat) => S 67 [(0, .lst (fl Tapi_Finding.enc a_0) a_0.length), (1, .lst (fl Tapi_Finding.enc b_1) b_1.length), (5, .int .i64 (↑s : Int))] []
def tollwayref50_SameFindings_L2_X (a_0 : (List Tapi_Finding)) (b_1 : (List Tapi_Finding)) : (Unit ⊕ Unit) → AEx := fun q => match q with | Sum.inl o => .ret | Sum.inr (o) => (.exit 0)
def tollwayref50_SameFindings_L2_T (a_0 : (List Tapi_Finding)) (b_1 : (List Tapi_Finding)) : (Unit ⊕ Unit) → List (Nat × AV) := fun q => match q with | Sum.inl o => [(4, .bool false)] | Sum.inr (o) => []
def tollwayref50_SameFindings_L2_B (a_0 : (List Tapi_Finding)) (b_1 : (List Tapi_Finding)) : (Unit ⊕ Unit) → List Blk := fun q => match q with | Sum.inl o => [] | Sum.inr (o) => []
def tollwayref50_SameFindings_L2_E (a_0 : (List Tapi_Finding)) (b_1 : (List Tapi_Finding)) (q : Unit ⊕ Unit) : St := S 67 (tollwayref50_SameFindings_L2_T a_0 b_1 q) (tollwayref50_SameFindings_L2_B a_0 b_1 q)
theorem tollwayref50_SameFindings_L2_does (a_0 : (List Tapi_Finding)) (b_1 : (List Tapi_Finding)) {s : Nat} {r : Unit ⊕ Unit} (h : lp (tollwayref50_SameFindings_L2_step a_0 b_1) s = some r) : Does Tryz.prog G0 0 (.loop (bodyAt Tryz.prog 15 [1, 1, 0, 1, 0, 0])) (tollwayref50_SameFindings_L2_H a_0 b_1 s) (tollwayref50_SameFindings_L2_X a_0 b_1 r) (tollwayref50_SameFindings_L2_E a_0 b_1 r) := by
  refine Does.lp (H := tollwayref50_SameFindings_L2_H a_0 b_1) (X := tollwayref50_SameFindings_L2_X a_0 b_1) (E := tollwayref50_SameFindings_L2_E a_0 b_1) (fun s s2 h => ?_) (fun s r h => ?_) h
  · revert h; revert s; intro k5 h
    unfold tollwayref50_SameFindings_L2_step at h
    try dsimp only at h
    rcases ite_some h with ⟨c13, h⟩ | ⟨c13, h⟩
    · obtain ⟨x14, h15, h⟩ := bind_some h
      obtain ⟨x16, h17, h⟩ := bind_some h
      rcases ite_some h with ⟨c18, h⟩ | ⟨c18, h⟩
      · rcases ite_some h with ⟨c19, h⟩ | ⟨c19, h⟩
        · rcases ite_some h with ⟨c20, h⟩ | ⟨c20, h⟩
          · rcases ite_some h with ⟨c21, h⟩ | ⟨c21, h⟩
            · obtain ⟨h22, h⟩ := guard_some h
              obtain rfl := oL h
              exact Does.of_viewM 0 400 (cs 3 (oa :: (.br true) :: (cs 2 ((.op none (.i k5)) :: oc :: (.op none (.v [.str x14.Key])) :: (cs 2 [.op none (.i k5), oc, .op none (.v [.str x16.Key]), oa, oc, .op (some false) .c, .op (some false) .c, .op (some false) (.i k5), .op (some false) .c, .op (some false) (.v [.int .i64 x14.Day]), .op (some false) .c, .op (some false) .c, .op (some false) (.i k5), .op (some false) .c, .op (some false) (.v [.int .i64 x16.Day]), .op (some false) .a, .op none (.b false), oc, .op (some false) .c, .op (some false) .c, .op (some false) (.i k5), .op (some false) .c, .op (some false) (.v [.int .i64 x14.Have]), .op (some false) .c, .op (some false) .c, .op (some false) (.i k5), .op (some false) .c, .op (some false) (.v [.int .i64 x16.Have]), .op (some false) .a, .op none (.b false), oc, .op (some false) .c, .op (some false) .c, .op (some false) (.i k5), .op (some false) .c, .op (some false) (.v [.int .i64 x14.Want]), .op (some false) .c, .op (some false) .c, .op (some false) (.i k5), .op (some false) .c, .op (some false) (.v [.int .i64 x16.Want]), .op (some false) .a, .op none (.b false), .br false, oc, ow, oc]))))) [] (by kernel_rfl) (by kernel_rfl) (k2 (decide_eq_true c13) (k2 (ir h15) (k2 (fl_ne (f := Tapi_Finding.enc) (z := 3) (fun _ => rfl) h15) (k2 (fl_sub (f := Tapi_Finding.enc) (z := 4) (j := k5) (a := 0) (n := 1) (fun _ => rfl) h15 (by decide) rfl) (k2 (ir h17) (k2 (fl_ne (f := Tapi_Finding.enc) (z := 3) (fun _ => rfl) h17) (k2 (fl_sub (f := Tapi_Finding.enc) (z := 4) (j := k5) (a := 0) (n := 1) (fun _ => rfl) h17 (by decide) rfl) (k2 (not_f (beq_t c18)) (k2 (not_f (beq_t c18)) (k2 (not_f (beq_t c18)) (k2 (ir h15) (k2 (fl_ne (f := Tapi_Finding.enc) (z := 3) (fun _ => rfl) h15) (k2 (not_f (beq_t c18)) (k2 (not_f (beq_t c18)) (k2 (fl_sub (f := Tapi_Finding.enc) (z := 4) (j := k5) (a := 1) (n := 1) (fun _ => rfl) h15 (by decide) rfl) (k2 (not_f (beq_t c18)) (k2 (not_f (beq_t c18)) (k2 (not_f (beq_t c18)) (k2 (ir h17) (k2 (fl_ne (f := Tapi_Finding.enc) (z := 3) (fun _ => rfl) h17) (k2 (not_f (beq_t c18)) (k2 (not_f (beq_t c18)) (k2 (fl_sub (f := Tapi_Finding.enc) (z := 4) (j := k5) (a := 1) (n := 1) (fun _ => rfl) h17 (by decide) rfl) (k2 (not_f (beq_t c18)) (k2 (not_f (beq_t c18)) (k2 (not_f (beq_t c19)) (k2 (not_f (beq_t c19)) (k2 (not_f (beq_t c19)) (k2 (ir h15) (k2 (fl_ne (f := Tapi_Finding.enc) (z := 3) (fun _ => rfl) h15) (k2 (not_f (beq_t c19)) (k2 (not_f (beq_t c19)) (k2 (fl_sub (f := Tapi_Finding.enc) (z := 4) (j := k5) (a := 2) (n := 1) (fun _ => rfl) h15 (by decide) rfl) (k2 (not_f (beq_t c19)) (k2 (not_f (beq_t c19)) (k2 (not_f (beq_t c19)) (k2 (ir h17) (k2 (fl_ne (f := Tapi_Finding.enc) (z := 3) (fun _ => rfl) h17) (k2 (not_f (beq_t c19)) (k2 (not_f (beq_t c19)) (k2 (fl_sub (f := Tapi_Finding.enc) (z := 4) (j := k5) (a := 2) (n := 1) (fun _ => rfl) h17 (by decide) rfl) (k2 (not_f (beq_t c19)) (k2 (not_f (beq_t c19)) (k2 (not_f (beq_t c20)) (k2 (not_f (beq_t c20)) (k2 (not_f (beq_t c20)) (k2 (ir h15) (k2 (fl_ne (f := Tapi_Finding.enc) (z := 3) (fun _ => rfl) h15) (k2 (not_f (beq_t c20)) (k2 (not_f (beq_t c20)) (k2 (fl_sub (f := Tapi_Finding.enc) (z := 4) (j := k5) (a := 3) (n := 1) (fun _ => rfl) h15 (by decide) rfl) (k2 (not_f (beq_t c20)) (k2 (not_f (beq_t c20)) (k2 (not_f (beq_t c20)) (k2 (ir h17) (k2 (fl_ne (f := Tapi_Finding.enc) (z := 3) (fun _ => rfl) h17) (k2 (not_f (beq_t c20)) (k2 (not_f (beq_t c20)) (k2 (fl_sub (f := Tapi_Finding.enc) (z := 4) (j := k5) (a := 3) (n := 1) (fun _ => rfl) h17 (by decide) rfl) (k2 (not_f (beq_t c20)) (k2 (not_f (beq_t c20)) (k2 (not_f (beq_t c21)) (ok1 h22)))))))))))))))))))))))))))))))))))))))))))))))))))))))))))))))
            · simp at h
          · simp at h
        · simp at h
      · simp at h
    · simp at h
  · revert h; revert s; intro k5 h
    unfold tollwayref50_SameFindings_L2_step at h
    try dsimp only at h
    rcases ite_some h with ⟨c13, h⟩ | ⟨c13, h⟩
    · obtain ⟨x14, h15, h⟩ := bind_some h
      obtain ⟨x16, h17, h⟩ := bind_some h
      rcases ite_some h with ⟨c18, h⟩ | ⟨c18, h⟩
      · rcases ite_some h with ⟨c19, h⟩ | ⟨c19, h⟩
        · rcases ite_some h with ⟨c20, h⟩ | ⟨c20, h⟩
          · rcases ite_some h with ⟨c21, h⟩ | ⟨c21, h⟩
            · obtain ⟨h22, h⟩ := guard_some h
              simp at h
            · obtain rfl := oR h
              exact ⟨Does.of_viewM 0 400 (cs 3 (oa :: (.br true) :: (cs 2 ((.op none (.i k5)) :: oc :: (.op none (.v [.str x14.Key])) :: (cs 2 [.op none (.i k5), oc, .op none (.v [.str x16.Key]), oa, oc, .op (some false) .c, .op (some false) .c, .op (some false) (.i k5), .op (some false) .c, .op (some false) (.v [.int .i64 x14.Day]), .op (some false) .c, .op (some false) .c, .op (some false) (.i k5), .op (some false) .c, .op (some false) (.v [.int .i64 x16.Day]), .op (some false) .a, .op none (.b false), oc, .op (some false) .c, .op (some false) .c, .op (some false) (.i k5), .op (some false) .c, .op (some false) (.v [.int .i64 x14.Have]), .op (some false) .c, .op (some false) .c, .op (some false) (.i k5), .op (some false) .c, .op (some false) (.v [.int .i64 x16.Have]), .op (some false) .a, .op none (.b false), oc, .op (some false) .c, .op (some false) .c, .op (some false) (.i k5), .op (some false) .c, .op (some false) (.v [.int .i64 x14.Want]), .op (some false) .c, .op (some false) .c, .op (some false) (.i k5), .op (some false) .c, .op (some false) (.v [.int .i64 x16.Want]), .op (some false) .a, .op none (.b false), .br true, oc]))))) [] (by kernel_rfl) (by kernel_rfl) (k2 (decide_eq_true c13) (k2 (ir h15) (k2 (fl_ne (f := Tapi_Finding.enc) (z := 3) (fun _ => rfl) h15) (k2 (fl_sub (f := Tapi_Finding.enc) (z := 4) (j := k5) (a := 0) (n := 1) (fun _ => rfl) h15 (by decide) rfl) (k2 (ir h17) (k2 (fl_ne (f := Tapi_Finding.enc) (z := 3) (fun _ => rfl) h17) (k2 (fl_sub (f := Tapi_Finding.enc) (z := 4) (j := k5) (a := 0) (n := 1) (fun _ => rfl) h17 (by decide) rfl) (k2 (not_f (beq_t c18)) (k2 (not_f (beq_t c18)) (k2 (not_f (beq_t c18)) (k2 (ir h15) (k2 (fl_ne (f := Tapi_Finding.enc) (z := 3) (fun _ => rfl) h15) (k2 (not_f (beq_t c18)) (k2 (not_f (beq_t c18)) (k2 (fl_sub (f := Tapi_Finding.enc) (z := 4) (j := k5) (a := 1) (n := 1) (fun _ => rfl) h15 (by decide) rfl) (k2 (not_f (beq_t c18)) (k2 (not_f (beq_t c18)) (k2 (not_f (beq_t c18)) (k2 (ir h17) (k2 (fl_ne (f := Tapi_Finding.enc) (z := 3) (fun _ => rfl) h17) (k2 (not_f (beq_t c18)) (k2 (not_f (beq_t c18)) (k2 (fl_sub (f := Tapi_Finding.enc) (z := 4) (j := k5) (a := 1) (n := 1) (fun _ => rfl) h17 (by decide) rfl) (k2 (not_f (beq_t c18)) (k2 (not_f (beq_t c18)) (k2 (not_f (beq_t c19)) (k2 (not_f (beq_t c19)) (k2 (not_f (beq_t c19)) (k2 (ir h15) (k2 (fl_ne (f := Tapi_Finding.enc) (z := 3) (fun _ => rfl) h15) (k2 (not_f (beq_t c19)) (k2 (not_f (beq_t c19)) (k2 (fl_sub (f := Tapi_Finding.enc) (z := 4) (j := k5) (a := 2) (n := 1) (fun _ => rfl) h15 (by decide) rfl) (k2 (not_f (beq_t c19)) (k2 (not_f (beq_t c19)) (k2 (not_f (beq_t c19)) (k2 (ir h17) (k2 (fl_ne (f := Tapi_Finding.enc) (z := 3) (fun _ => rfl) h17) (k2 (not_f (beq_t c19)) (k2 (not_f (beq_t c19)) (k2 (fl_sub (f := Tapi_Finding.enc) (z := 4) (j := k5) (a := 2) (n := 1) (fun _ => rfl) h17 (by decide) rfl) (k2 (not_f (beq_t c19)) (k2 (not_f (beq_t c19)) (k2 (not_f (beq_t c20)) (k2 (not_f (beq_t c20)) (k2 (not_f (beq_t c20)) (k2 (ir h15) (k2 (fl_ne (f := Tapi_Finding.enc) (z := 3) (fun _ => rfl) h15) (k2 (not_f (beq_t c20)) (k2 (not_f (beq_t c20)) (k2 (fl_sub (f := Tapi_Finding.enc) (z := 4) (j := k5) (a := 3) (n := 1) (fun _ => rfl) h15 (by decide) rfl) (k2 (not_f (beq_t c20)) (k2 (not_f (beq_t c20)) (k2 (not_f (beq_t c20)) (k2 (ir h17) (k2 (fl_ne (f := Tapi_Finding.enc) (z := 3) (fun _ => rfl) h17) (k2 (not_f (beq_t c20)) (k2 (not_f (beq_t c20)) (k2 (fl_sub (f := Tapi_Finding.enc) (z := 4) (j := k5) (a := 3) (n := 1) (fun _ => rfl) h17 (by decide) rfl) (k2 (not_f (beq_t c20)) (k2 (not_f (beq_t c20)) (ok1 (not_t (beq_f c21)))))))))))))))))))))))))))))))))))))))))))))))))))))))))))))))), by intro q; cases q⟩
          · obtain rfl := oR h
            exact ⟨Does.of_viewM 0 400 (cs 3 (oa :: (.br true) :: (cs 2 ((.op none (.i k5)) :: oc :: (.op none (.v [.str x14.Key])) :: (cs 2 [.op none (.i k5), oc, .op none (.v [.str x16.Key]), oa, oc, .op (some false) .c, .op (some false) .c, .op (some false) (.i k5), .op (some false) .c, .op (some false) (.v [.int .i64 x14.Day]), .op (some false) .c, .op (some false) .c, .op (some false) (.i k5), .op (some false) .c, .op (some false) (.v [.int .i64 x16.Day]), .op (some false) .a, .op none (.b false), oc, .op (some false) .c, .op (some false) .c, .op (some false) (.i k5), .op (some false) .c, .op (some false) (.v [.int .i64 x14.Have]), .op (some false) .c, .op (some false) .c, .op (some false) (.i k5), .op (some false) .c, .op (some false) (.v [.int .i64 x16.Have]), .op (some false) .a, .op none (.b false), oc, tc, tc, tc, tc, tc, tc, tc, tc, tc, tc, tc, .op none (.b true), .br true, oc]))))) [] (by kernel_rfl) (by kernel_rfl) (k2 (decide_eq_true c13) (k2 (ir h15) (k2 (fl_ne (f := Tapi_Finding.enc) (z := 3) (fun _ => rfl) h15) (k2 (fl_sub (f := Tapi_Finding.enc) (z := 4) (j := k5) (a := 0) (n := 1) (fun _ => rfl) h15 (by decide) rfl) (k2 (ir h17) (k2 (fl_ne (f := Tapi_Finding.enc) (z := 3) (fun _ => rfl) h17) (k2 (fl_sub (f := Tapi_Finding.enc) (z := 4) (j := k5) (a := 0) (n := 1) (fun _ => rfl) h17 (by decide) rfl) (k2 (not_f (beq_t c18)) (k2 (not_f (beq_t c18)) (k2 (not_f (beq_t c18)) (k2 (ir h15) (k2 (fl_ne (f := Tapi_Finding.enc) (z := 3) (fun _ => rfl) h15) (k2 (not_f (beq_t c18)) (k2 (not_f (beq_t c18)) (k2 (fl_sub (f := Tapi_Finding.enc) (z := 4) (j := k5) (a := 1) (n := 1) (fun _ => rfl) h15 (by decide) rfl) (k2 (not_f (beq_t c18)) (k2 (not_f (beq_t c18)) (k2 (not_f (beq_t c18)) (k2 (ir h17) (k2 (fl_ne (f := Tapi_Finding.enc) (z := 3) (fun _ => rfl) h17) (k2 (not_f (beq_t c18)) (k2 (not_f (beq_t c18)) (k2 (fl_sub (f := Tapi_Finding.enc) (z := 4) (j := k5) (a := 1) (n := 1) (fun _ => rfl) h17 (by decide) rfl) (k2 (not_f (beq_t c18)) (k2 (not_f (beq_t c18)) (k2 (not_f (beq_t c19)) (k2 (not_f (beq_t c19)) (k2 (not_f (beq_t c19)) (k2 (ir h15) (k2 (fl_ne (f := Tapi_Finding.enc) (z := 3) (fun _ => rfl) h15) (k2 (not_f (beq_t c19)) (k2 (not_f (beq_t c19)) (k2 (fl_sub (f := Tapi_Finding.enc) (z := 4) (j := k5) (a := 2) (n := 1) (fun _ => rfl) h15 (by decide) rfl) (k2 (not_f (beq_t c19)) (k2 (not_f (beq_t c19)) (k2 (not_f (beq_t c19)) (k2 (ir h17) (k2 (fl_ne (f := Tapi_Finding.enc) (z := 3) (fun _ => rfl) h17) (k2 (not_f (beq_t c19)) (k2 (not_f (beq_t c19)) (k2 (fl_sub (f := Tapi_Finding.enc) (z := 4) (j := k5) (a := 2) (n := 1) (fun _ => rfl) h17 (by decide) rfl) (k2 (not_f (beq_t c19)) (k2 (not_f (beq_t c19)) (k2 (not_t (beq_f c20)) (k2 (not_t (beq_f c20)) (k2 (not_t (beq_f c20)) (k2 (not_t (beq_f c20)) (k2 (not_t (beq_f c20)) (k2 (not_t (beq_f c20)) (k2 (not_t (beq_f c20)) (k2 (not_t (beq_f c20)) (k2 (not_t (beq_f c20)) (k2 (not_t (beq_f c20)) (k2 (not_t (beq_f c20)) (k2 (not_t (beq_f c20)) (ok1 (rfl : true = true))))))))))))))))))))))))))))))))))))))))))))))))))))))))), by intro q; cases q⟩
        · obtain rfl := oR h
          exact ⟨Does.of_viewM 0 400 (cs 3 (oa :: (.br true) :: (cs 2 ((.op none (.i k5)) :: oc :: (.op none (.v [.str x14.Key])) :: (cs 2 ((.op none (.i k5)) :: oc :: (.op none (.v [.str x16.Key])) :: oa :: oc :: (.op (some false) .c) :: (.op (some false) .c) :: (.op (some false) (.i k5)) :: (.op (some false) .c) :: (.op (some false) (.v [.int .i64 x14.Day])) :: (.op (some false) .c) :: (.op (some false) .c) :: (.op (some false) (.i k5)) :: (.op (some false) .c) :: (.op (some false) (.v [.int .i64 x16.Day])) :: (.op (some false) .a) :: (.op none (.b false)) :: oc :: tc :: tc :: tc :: tc :: tc :: tc :: tc :: tc :: tc :: tc :: tc :: (.op none (.b true)) :: (cs 13 [.br true, oc]))))))) [] (by kernel_rfl) (by kernel_rfl) (k2 (decide_eq_true c13) (k2 (ir h15) (k2 (fl_ne (f := Tapi_Finding.enc) (z := 3) (fun _ => rfl) h15) (k2 (fl_sub (f := Tapi_Finding.enc) (z := 4) (j := k5) (a := 0) (n := 1) (fun _ => rfl) h15 (by decide) rfl) (k2 (ir h17) (k2 (fl_ne (f := Tapi_Finding.enc) (z := 3) (fun _ => rfl) h17) (k2 (fl_sub (f := Tapi_Finding.enc) (z := 4) (j := k5) (a := 0) (n := 1) (fun _ => rfl) h17 (by decide) rfl) (k2 (not_f (beq_t c18)) (k2 (not_f (beq_t c18)) (k2 (not_f (beq_t c18)) (k2 (ir h15) (k2 (fl_ne (f := Tapi_Finding.enc) (z := 3) (fun _ => rfl) h15) (k2 (not_f (beq_t c18)) (k2 (not_f (beq_t c18)) (k2 (fl_sub (f := Tapi_Finding.enc) (z := 4) (j := k5) (a := 1) (n := 1) (fun _ => rfl) h15 (by decide) rfl) (k2 (not_f (beq_t c18)) (k2 (not_f (beq_t c18)) (k2 (not_f (beq_t c18)) (k2 (ir h17) (k2 (fl_ne (f := Tapi_Finding.enc) (z := 3) (fun _ => rfl) h17) (k2 (not_f (beq_t c18)) (k2 (not_f (beq_t c18)) (k2 (fl_sub (f := Tapi_Finding.enc) (z := 4) (j := k5) (a := 1) (n := 1) (fun _ => rfl) h17 (by decide) rfl) (k2 (not_f (beq_t c18)) (k2 (not_f (beq_t c18)) (k2 (not_t (beq_f c19)) (k2 (not_t (beq_f c19)) (k2 (not_t (beq_f c19)) (k2 (not_t (beq_f c19)) (k2 (not_t (beq_f c19)) (k2 (not_t (beq_f c19)) (k2 (not_t (beq_f c19)) (k2 (not_t (beq_f c19)) (k2 (not_t (beq_f c19)) (k2 (not_t (beq_f c19)) (k2 (not_t (beq_f c19)) (k2 (not_t (beq_f c19)) (ok1 (rfl : true = true))))))))))))))))))))))))))))))))))))))), by intro q; cases q⟩
      · obtain rfl := oR h
        exact ⟨Does.of_viewM 0 400 (cs 3 (oa :: (.br true) :: (cs 2 ((.op none (.i k5)) :: oc :: (.op none (.v [.str x14.Key])) :: (cs 2 ((.op none (.i k5)) :: oc :: (.op none (.v [.str x16.Key])) :: oa :: oc :: tc :: tc :: tc :: tc :: tc :: tc :: tc :: tc :: tc :: tc :: tc :: (.op none (.b true)) :: (cs 26 [.br true, oc]))))))) [] (by kernel_rfl) (by kernel_rfl) (k2 (decide_eq_true c13) (k2 (ir h15) (k2 (fl_ne (f := Tapi_Finding.enc) (z := 3) (fun _ => rfl) h15) (k2 (fl_sub (f := Tapi_Finding.enc) (z := 4) (j := k5) (a := 0) (n := 1) (fun _ => rfl) h15 (by decide) rfl) (k2 (ir h17) (k2 (fl_ne (f := Tapi_Finding.enc) (z := 3) (fun _ => rfl) h17) (k2 (fl_sub (f := Tapi_Finding.enc) (z := 4) (j := k5) (a := 0) (n := 1) (fun _ => rfl) h17 (by decide) rfl) (k2 (not_t (beq_f c18)) (k2 (not_t (beq_f c18)) (k2 (not_t (beq_f c18)) (k2 (not_t (beq_f c18)) (k2 (not_t (beq_f c18)) (k2 (not_t (beq_f c18)) (k2 (not_t (beq_f c18)) (k2 (not_t (beq_f c18)) (k2 (not_t (beq_f c18)) (k2 (not_t (beq_f c18)) (k2 (not_t (beq_f c18)) (k2 (not_t (beq_f c18)) (ok1 (rfl : true = true))))))))))))))))))))), by intro q; cases q⟩
    · obtain rfl := oR h
      exact ⟨Does.of_viewM 0 400 (cs 3 [oa, .br false]) [] (by kernel_rfl) (by kernel_rfl) (ok1 (decide_eq_false c13)), by intro q; cases q⟩
noncomputable def tollwayref50_SameFindings (a_0 : (List Tapi_Finding)) (b_1 : (List Tapi_Finding)) : Option Bool :=
  if (↑a_0.length : Int) = (↑b_1.length : Int) then
    (lp (tollwayref50_SameFindings_L2_step a_0 b_1) (0 : Nat)).bind fun qq => match qq with
    | Sum.inl o2 =>
      some false
    | Sum.inr (o2) =>
      some true
  else
    some false
theorem tollwayref50_SameFindings_ret (a_0 : (List Tapi_Finding)) (b_1 : (List Tapi_Finding)) (r : Bool) (h : tollwayref50_SameFindings a_0 b_1 = some r) : Ret Tryz.prog G0 15 [.lst (fl Tapi_Finding.enc a_0) a_0.length, .lst (fl Tapi_Finding.enc b_1) b_1.length] (.bool r) [] := by
  unfold tollwayref50_SameFindings at h
  rcases ite_some h with ⟨c1, h⟩ | ⟨c1, h⟩
  · obtain ⟨qq, hl2, h⟩ := bind_some h
    rcases qq with o2 | o2
    · dsimp only at h
      obtain rfl := oI h
      exact Ret.of_view 400 (cs 5 [oa, .br false, oc, .fcut 0 .ret [(4, .bool false)] [] [] [(0, .any), (1, .any), (5, .int .i64 (↑(0 : Nat) : Int))] []]) [] (by kernel_rfl) (by kernel_rfl) (k2 (not_f (beq_t c1)) (k2 (rfl : (.int .i64 0 : AV) = .int .i64 (↑(0 : Nat) : Int)) (ok1 (tollwayref50_SameFindings_L2_does a_0 b_1 (s := (0 : Nat)) (r := Sum.inl o2) hl2))))
    · dsimp only at h
      obtain rfl := oI h
      exact Ret.of_view 400 (cs 5 [oa, .br false, oc, .fcut 0 (.exit 0) [] [] [] [(0, .any), (1, .any), (5, .int .i64 (↑(0 : Nat) : Int))] [], oc]) [] (by kernel_rfl) (by kernel_rfl) (k2 (not_f (beq_t c1)) (k2 (rfl : (.int .i64 0 : AV) = .int .i64 (↑(0 : Nat) : Int)) (ok1 (tollwayref50_SameFindings_L2_does a_0 b_1 (s := (0 : Nat)) (r := Sum.inr (o2)) hl2))))
  · obtain rfl := oI h
    exact Ret.of_view 400 (cs 5 [oa, .br true, oc]) [] (by kernel_rfl) (by kernel_rfl) (ok1 (not_t (beq_f c1)))
noncomputable def tollwaylaw50_few_L32_step (l_0 : (List Tapi_Charge)) (k3 : Nat) : Nat → Option (Nat ⊕ (Unit ⊕ Unit)) := fun k4 =>
  (l_0[k3]?).bind fun x40 =>
  if (↑k4 : Int) < (↑x40.Lines.length : Int) then
    (x40.Lines[k4]?).bind fun x43 =>
    if (↑x43.Text.length : Int) > (80 : Int) then
      some (Sum.inr (Sum.inl ()))
    else
      if InR .i64 ((↑k4 : Int) + 1) then
        some (Sum.inl (k4 + 1))
      else none
  else
    some (Sum.inr (Sum.inr (())))
def tollwaylaw50_few_L32_H (l_0 : (List Tapi_Charge)) (k3 : Nat) : Nat → St := fun (s : Nat) => S 69 [(0, .lst (fl Tapi_Charge.enc l_0) l_0.length), (3, .int .i64 (↑k3 : Int)), (4, .int .i64 (↑s : Int))] []
def tollwaylaw50_few_L32_X (l_0 : (List Tapi_Charge)) (k3 : Nat) : (Unit ⊕ Unit) → AEx := fun q => match q with | Sum.inl o => .ret | Sum.inr (o) => (.exit 2)
def tollwaylaw50_few_L32_T (l_0 : (List Tapi_Charge)) (k3 : Nat) : (Unit ⊕ Unit) → List (Nat × AV) := fun q => match q with | Sum.inl o => [(2, .bool false)] | Sum.inr (o) => [(0, .lst (fl Tapi_Charge.enc l_0) l_0.length), (3, .int .i64 (↑k3 : Int))]
def tollwaylaw50_few_L32_B (l_0 : (List Tapi_Charge)) (k3 : Nat) : (Unit ⊕ Unit) → List Blk := fun q => match q with | Sum.inl o => [] | Sum.inr (o) => []
def tollwaylaw50_few_L32_E (l_0 : (List Tapi_Charge)) (k3 : Nat) (q : Unit ⊕ Unit) : St := S 69 (tollwaylaw50_few_L32_T l_0 k3 q) (tollwaylaw50_few_L32_B l_0 k3 q)
theorem tollwaylaw50_few_L32_does (l_0 : (List Tapi_Charge)) (k3 : Nat) {s : Nat} {r : Unit ⊕ Unit} (h : lp (tollwaylaw50_few_L32_step l_0 k3) s = some r) : Does Tryz.prog G0 0 (.loop (bodyAt Tryz.prog 10 [1, 0, 1, 0, 0, 1, 0, 0, 1, 1, 0, 0])) (tollwaylaw50_few_L32_H l_0 k3 s) (tollwaylaw50_few_L32_X l_0 k3 r) (tollwaylaw50_few_L32_E l_0 k3 r) := by
  refine Does.lp (H := tollwaylaw50_few_L32_H l_0 k3) (X := tollwaylaw50_few_L32_X l_0 k3) (E := tollwaylaw50_few_L32_E l_0 k3) (fun s s2 h => ?_) (fun s r h => ?_) h
  · revert h; revert s; intro k4 h
    unfold tollwaylaw50_few_L32_step at h
    try dsimp only at h
    obtain ⟨x40, h41, h⟩ := bind_some h
    rcases ite_some h with ⟨c42, h⟩ | ⟨c42, h⟩
    · obtain ⟨x43, h44, h⟩ := bind_some h
      rcases ite_some h with ⟨c45, h⟩ | ⟨c45, h⟩
      · simp at h
      · obtain ⟨h46, h⟩ := guard_some h
        obtain rfl := oL h
        exact Does.of_viewM 0 400 (cs 3 ((.op none (.i k3)) :: oc :: (.op none (.v [.lst (fl Tapi_Line.enc x40.Lines) x40.Lines.length])) :: oc :: oa :: (.br true) :: (cs 2 [.op none (.i k3), oc, .op none (.v [.lst (fl Tapi_Line.enc x40.Lines) x40.Lines.length]), oc, .op none (.i k4), oc, .op none (.v [.str x43.Text]), oc, oa, .br false, oc, ow, oc]))) [] (by kernel_rfl) (by kernel_rfl) (k2 (ir h41) (k2 (fl_ne (f := Tapi_Charge.enc) (z := 6) (fun _ => rfl) h41) (k2 (fl_sub (f := Tapi_Charge.enc) (z := 7) (j := k3) (a := 5) (n := 1) (fun _ => rfl) h41 (by decide) rfl) (k2 (decide_eq_true c42) (k2 (ir h41) (k2 (fl_ne (f := Tapi_Charge.enc) (z := 6) (fun _ => rfl) h41) (k2 (fl_sub (f := Tapi_Charge.enc) (z := 7) (j := k3) (a := 5) (n := 1) (fun _ => rfl) h41 (by decide) rfl) (k2 (ir h44) (k2 (fl_ne (f := Tapi_Line.enc) (z := 1) (fun _ => rfl) h44) (k2 (fl_sub (f := Tapi_Line.enc) (z := 2) (j := k4) (a := 0) (n := 1) (fun _ => rfl) h44 (by decide) rfl) (k2 (decide_eq_false c45) (ok1 h46))))))))))))
    · simp at h
  · revert h; revert s; intro k4 h
    unfold tollwaylaw50_few_L32_step at h
    try dsimp only at h
    obtain ⟨x40, h41, h⟩ := bind_some h
    rcases ite_some h with ⟨c42, h⟩ | ⟨c42, h⟩
    · obtain ⟨x43, h44, h⟩ := bind_some h
      rcases ite_some h with ⟨c45, h⟩ | ⟨c45, h⟩
      · obtain rfl := oR h
        exact ⟨Does.of_viewM 0 400 (cs 3 ((.op none (.i k3)) :: oc :: (.op none (.v [.lst (fl Tapi_Line.enc x40.Lines) x40.Lines.length])) :: oc :: oa :: (.br true) :: (cs 2 [.op none (.i k3), oc, .op none (.v [.lst (fl Tapi_Line.enc x40.Lines) x40.Lines.length]), oc, .op none (.i k4), oc, .op none (.v [.str x43.Text]), oc, oa, .br true, oc]))) [] (by kernel_rfl) (by kernel_rfl) (k2 (ir h41) (k2 (fl_ne (f := Tapi_Charge.enc) (z := 6) (fun _ => rfl) h41) (k2 (fl_sub (f := Tapi_Charge.enc) (z := 7) (j := k3) (a := 5) (n := 1) (fun _ => rfl) h41 (by decide) rfl) (k2 (decide_eq_true c42) (k2 (ir h41) (k2 (fl_ne (f := Tapi_Charge.enc) (z := 6) (fun _ => rfl) h41) (k2 (fl_sub (f := Tapi_Charge.enc) (z := 7) (j := k3) (a := 5) (n := 1) (fun _ => rfl) h41 (by decide) rfl) (k2 (ir h44) (k2 (fl_ne (f := Tapi_Line.enc) (z := 1) (fun _ => rfl) h44) (k2 (fl_sub (f := Tapi_Line.enc) (z := 2) (j := k4) (a := 0) (n := 1) (fun _ => rfl) h44 (by decide) rfl) (ok1 (decide_eq_true c45)))))))))))), by intro q; cases q⟩
      · obtain ⟨h46, h⟩ := guard_some h
        simp at h
    · obtain rfl := oR h
      exact ⟨Does.of_viewM 0 400 (cs 3 [.op none (.i k3), oc, .op none (.v [.lst (fl Tapi_Line.enc x40.Lines) x40.Lines.length]), oc, oa, .br false]) [] (by kernel_rfl) (by kernel_rfl) (k2 (ir h41) (k2 (fl_ne (f := Tapi_Charge.enc) (z := 6) (fun _ => rfl) h41) (k2 (fl_sub (f := Tapi_Charge.enc) (z := 7) (j := k3) (a := 5) (n := 1) (fun _ => rfl) h41 (by decide) rfl) (ok1 (decide_eq_false c42))))), by intro q; cases q⟩
noncomputable def tollwaylaw50_few_L1_step (l_0 : (List Tapi_Charge)) : Nat → Option (Nat ⊕ (Unit ⊕ Unit)) := fun k3 =>
  if (↑k3 : Int) < (↑l_0.length : Int) then
    (l_0[k3]?).bind fun x26 =>
    if (↑x26.Key.length : Int) > (80 : Int) then
      some (Sum.inr (Sum.inl ()))
    else
      if (↑x26.Vehicle.length : Int) > (80 : Int) then
        some (Sum.inr (Sum.inl ()))
      else
        if (↑x26.System.length : Int) > (80 : Int) then
          some (Sum.inr (Sum.inl ()))
        else
          if (↑x26.Lines.length : Int) > (8 : Int) then
            some (Sum.inr (Sum.inl ()))
          else
            (lp (tollwaylaw50_few_L32_step l_0 k3) (0 : Nat)).bind fun qq => match qq with
            | Sum.inl o32 =>
              some (Sum.inr (Sum.inl ()))
            | Sum.inr (o32) =>
              if InR .i64 ((↑k3 : Int) + 1) then
                some (Sum.inl (k3 + 1))
              else none
  else
    some (Sum.inr (Sum.inr (())))
def tollwaylaw50_few_L1_H (l_0 : (List Tapi_Charge)) : Nat → St := fun (s : Nat) => S 69 [(0, .lst (fl Tapi_Charge.enc l_0) l_0.length), (3, .int .i64 (↑s : Int))] []
def tollwaylaw50_few_L1_X (l_0 : (List Tapi_Charge)) : (Unit ⊕ Unit) → AEx := fun q => match q with | Sum.inl o => .ret | Sum.inr (o) => (.exit 0)
def tollwaylaw50_few_L1_T (l_0 : (List Tapi_Charge)) : (Unit ⊕ Unit) → List (Nat × AV) := fun q => match q with | Sum.inl o => [(2, .bool false)] | Sum.inr (o) => [(0, .lst (fl Tapi_Charge.enc l_0) l_0.length)]
def tollwaylaw50_few_L1_B (l_0 : (List Tapi_Charge)) : (Unit ⊕ Unit) → List Blk := fun q => match q with | Sum.inl o => [] | Sum.inr (o) => []
def tollwaylaw50_few_L1_E (l_0 : (List Tapi_Charge)) (q : Unit ⊕ Unit) : St := S 69 (tollwaylaw50_few_L1_T l_0 q) (tollwaylaw50_few_L1_B l_0 q)
theorem tollwaylaw50_few_L1_does (l_0 : (List Tapi_Charge)) {s : Nat} {r : Unit ⊕ Unit} (h : lp (tollwaylaw50_few_L1_step l_0) s = some r) : Does Tryz.prog G0 0 (.loop (bodyAt Tryz.prog 10 [1, 0, 1, 0, 0])) (tollwaylaw50_few_L1_H l_0 s) (tollwaylaw50_few_L1_X l_0 r) (tollwaylaw50_few_L1_E l_0 r) := by
  refine Does.lp (H := tollwaylaw50_few_L1_H l_0) (X := tollwaylaw50_few_L1_X l_0) (E := tollwaylaw50_few_L1_E l_0) (fun s s2 h => ?_) (fun s r h => ?_) h
  · revert h; revert s; intro k3 h
    unfold tollwaylaw50_few_L1_step at h
    try dsimp only at h
    rcases ite_some h with ⟨c25, h⟩ | ⟨c25, h⟩
    · obtain ⟨x26, h27, h⟩ := bind_some h
      rcases ite_some h with ⟨c28, h⟩ | ⟨c28, h⟩
      · simp at h
      · rcases ite_some h with ⟨c29, h⟩ | ⟨c29, h⟩
        · simp at h
        · rcases ite_some h with ⟨c30, h⟩ | ⟨c30, h⟩
          · simp at h
          · rcases ite_some h with ⟨c31, h⟩ | ⟨c31, h⟩
            · simp at h
            · obtain ⟨qq, hl32, h⟩ := bind_some h
              rcases qq with o32 | o32
              · dsimp only at h
                simp at h
              · dsimp only at h
                obtain ⟨h47, h⟩ := guard_some h
                obtain rfl := oL h
                exact Does.of_viewM 0 400 (cs 3 (oa :: (.br true) :: (cs 2 ((.op none (.i k3)) :: oc :: (.op none (.v [.str x26.Key])) :: oc :: oa :: oc :: (.op (some false) .c) :: oc :: (.op none (.i k3)) :: oc :: (.op none (.v [.str x26.Vehicle])) :: oc :: oa :: (cs 2 ((.op (some false) .c) :: oc :: (.op none (.i k3)) :: oc :: (.op none (.v [.str x26.System])) :: oc :: oa :: (cs 2 [.op (some false) .c, oc, .op none (.i k3), oc, .op none (.v [.lst (fl Tapi_Line.enc x26.Lines) x26.Lines.length]), oc, oa, oc, .br false, oc, .fcut 0 (.exit 2) (tollwaylaw50_few_L32_T l_0 k3 (Sum.inr (o32))) [] [] [(0, .any), (3, .any), (4, .int .i64 (↑(0 : Nat) : Int))] [], oc, ow, oc]))))))) [] (by kernel_rfl) (by kernel_rfl) (k2 (decide_eq_true c25) (k2 (ir h27) (k2 (fl_ne (f := Tapi_Charge.enc) (z := 6) (fun _ => rfl) h27) (k2 (fl_sub (f := Tapi_Charge.enc) (z := 7) (j := k3) (a := 0) (n := 1) (fun _ => rfl) h27 (by decide) rfl) (k2 (decide_eq_false c28) (k2 (ir h27) (k2 (fl_ne (f := Tapi_Charge.enc) (z := 6) (fun _ => rfl) h27) (k2 (fl_sub (f := Tapi_Charge.enc) (z := 7) (j := k3) (a := 1) (n := 1) (fun _ => rfl) h27 (by decide) rfl) (k2 (decide_eq_false c29) (k2 (ir h27) (k2 (fl_ne (f := Tapi_Charge.enc) (z := 6) (fun _ => rfl) h27) (k2 (fl_sub (f := Tapi_Charge.enc) (z := 7) (j := k3) (a := 2) (n := 1) (fun _ => rfl) h27 (by decide) rfl) (k2 (decide_eq_false c30) (k2 (ir h27) (k2 (fl_ne (f := Tapi_Charge.enc) (z := 6) (fun _ => rfl) h27) (k2 (fl_sub (f := Tapi_Charge.enc) (z := 7) (j := k3) (a := 5) (n := 1) (fun _ => rfl) h27 (by decide) rfl) (k2 (decide_eq_false c31) (k2 (rfl : (.int .i64 0 : AV) = .int .i64 (↑(0 : Nat) : Int)) (k2 (tollwaylaw50_few_L32_does l_0 k3 (s := (0 : Nat)) (r := Sum.inr (o32)) hl32) (ok1 h47))))))))))))))))))))
    · simp at h
  · revert h; revert s; intro k3 h
    unfold tollwaylaw50_few_L1_step at h
    try dsimp only at h
    rcases ite_some h with ⟨c25, h⟩ | ⟨c25, h⟩
    · obtain ⟨x26, h27, h⟩ := bind_some h
      rcases ite_some h with ⟨c28, h⟩ | ⟨c28, h⟩
      · obtain rfl := oR h
        exact ⟨Does.of_viewM 0 400 (cs 3 (oa :: (.br true) :: (cs 2 ((.op none (.i k3)) :: oc :: (.op none (.v [.str x26.Key])) :: oc :: oa :: oc :: tc :: (cs 25 [.br true, oc]))))) [] (by kernel_rfl) (by kernel_rfl) (k2 (decide_eq_true c25) (k2 (ir h27) (k2 (fl_ne (f := Tapi_Charge.enc) (z := 6) (fun _ => rfl) h27) (k2 (fl_sub (f := Tapi_Charge.enc) (z := 7) (j := k3) (a := 0) (n := 1) (fun _ => rfl) h27 (by decide) rfl) (k2 (decide_eq_true c28) (ok1 (rfl : true = true))))))), by intro q; cases q⟩
      · rcases ite_some h with ⟨c29, h⟩ | ⟨c29, h⟩
        · obtain rfl := oR h
          exact ⟨Does.of_viewM 0 400 (cs 3 (oa :: (.br true) :: (cs 2 ((.op none (.i k3)) :: oc :: (.op none (.v [.str x26.Key])) :: oc :: oa :: oc :: (.op (some false) .c) :: oc :: (.op none (.i k3)) :: oc :: (.op none (.v [.str x26.Vehicle])) :: oc :: oa :: (cs 2 (tc :: (cs 16 [.br true, oc]))))))) [] (by kernel_rfl) (by kernel_rfl) (k2 (decide_eq_true c25) (k2 (ir h27) (k2 (fl_ne (f := Tapi_Charge.enc) (z := 6) (fun _ => rfl) h27) (k2 (fl_sub (f := Tapi_Charge.enc) (z := 7) (j := k3) (a := 0) (n := 1) (fun _ => rfl) h27 (by decide) rfl) (k2 (decide_eq_false c28) (k2 (ir h27) (k2 (fl_ne (f := Tapi_Charge.enc) (z := 6) (fun _ => rfl) h27) (k2 (fl_sub (f := Tapi_Charge.enc) (z := 7) (j := k3) (a := 1) (n := 1) (fun _ => rfl) h27 (by decide) rfl) (k2 (decide_eq_true c29) (ok1 (rfl : true = true))))))))))), by intro q; cases q⟩
        · rcases ite_some h with ⟨c30, h⟩ | ⟨c30, h⟩
          · obtain rfl := oR h
            exact ⟨Does.of_viewM 0 400 (cs 3 (oa :: (.br true) :: (cs 2 ((.op none (.i k3)) :: oc :: (.op none (.v [.str x26.Key])) :: oc :: oa :: oc :: (.op (some false) .c) :: oc :: (.op none (.i k3)) :: oc :: (.op none (.v [.str x26.Vehicle])) :: oc :: oa :: (cs 2 ((.op (some false) .c) :: oc :: (.op none (.i k3)) :: oc :: (.op none (.v [.str x26.System])) :: oc :: oa :: (cs 2 (tc :: (cs 7 [.br true, oc]))))))))) [] (by kernel_rfl) (by kernel_rfl) (k2 (decide_eq_true c25) (k2 (ir h27) (k2 (fl_ne (f := Tapi_Charge.enc) (z := 6) (fun _ => rfl) h27) (k2 (fl_sub (f := Tapi_Charge.enc) (z := 7) (j := k3) (a := 0) (n := 1) (fun _ => rfl) h27 (by decide) rfl) (k2 (decide_eq_false c28) (k2 (ir h27) (k2 (fl_ne (f := Tapi_Charge.enc) (z := 6) (fun _ => rfl) h27) (k2 (fl_sub (f := Tapi_Charge.enc) (z := 7) (j := k3) (a := 1) (n := 1) (fun _ => rfl) h27 (by decide) rfl) (k2 (decide_eq_false c29) (k2 (ir h27) (k2 (fl_ne (f := Tapi_Charge.enc) (z := 6) (fun _ => rfl) h27) (k2 (fl_sub (f := Tapi_Charge.enc) (z := 7) (j := k3) (a := 2) (n := 1) (fun _ => rfl) h27 (by decide) rfl) (k2 (decide_eq_true c30) (ok1 (rfl : true = true))))))))))))))), by intro q; cases q⟩
          · rcases ite_some h with ⟨c31, h⟩ | ⟨c31, h⟩
            · obtain rfl := oR h
              exact ⟨Does.of_viewM 0 400 (cs 3 (oa :: (.br true) :: (cs 2 ((.op none (.i k3)) :: oc :: (.op none (.v [.str x26.Key])) :: oc :: oa :: oc :: (.op (some false) .c) :: oc :: (.op none (.i k3)) :: oc :: (.op none (.v [.str x26.Vehicle])) :: oc :: oa :: (cs 2 ((.op (some false) .c) :: oc :: (.op none (.i k3)) :: oc :: (.op none (.v [.str x26.System])) :: oc :: oa :: (cs 2 [.op (some false) .c, oc, .op none (.i k3), oc, .op none (.v [.lst (fl Tapi_Line.enc x26.Lines) x26.Lines.length]), oc, oa, oc, .br true, oc]))))))) [] (by kernel_rfl) (by kernel_rfl) (k2 (decide_eq_true c25) (k2 (ir h27) (k2 (fl_ne (f := Tapi_Charge.enc) (z := 6) (fun _ => rfl) h27) (k2 (fl_sub (f := Tapi_Charge.enc) (z := 7) (j := k3) (a := 0) (n := 1) (fun _ => rfl) h27 (by decide) rfl) (k2 (decide_eq_false c28) (k2 (ir h27) (k2 (fl_ne (f := Tapi_Charge.enc) (z := 6) (fun _ => rfl) h27) (k2 (fl_sub (f := Tapi_Charge.enc) (z := 7) (j := k3) (a := 1) (n := 1) (fun _ => rfl) h27 (by decide) rfl) (k2 (decide_eq_false c29) (k2 (ir h27) (k2 (fl_ne (f := Tapi_Charge.enc) (z := 6) (fun _ => rfl) h27) (k2 (fl_sub (f := Tapi_Charge.enc) (z := 7) (j := k3) (a := 2) (n := 1) (fun _ => rfl) h27 (by decide) rfl) (k2 (decide_eq_false c30) (k2 (ir h27) (k2 (fl_ne (f := Tapi_Charge.enc) (z := 6) (fun _ => rfl) h27) (k2 (fl_sub (f := Tapi_Charge.enc) (z := 7) (j := k3) (a := 5) (n := 1) (fun _ => rfl) h27 (by decide) rfl) (ok1 (decide_eq_true c31)))))))))))))))))), by intro q; cases q⟩
            · obtain ⟨qq, hl32, h⟩ := bind_some h
              rcases qq with o32 | o32
              · dsimp only at h
                obtain rfl := oR h
                exact ⟨Does.of_viewM 0 400 (cs 3 (oa :: (.br true) :: (cs 2 ((.op none (.i k3)) :: oc :: (.op none (.v [.str x26.Key])) :: oc :: oa :: oc :: (.op (some false) .c) :: oc :: (.op none (.i k3)) :: oc :: (.op none (.v [.str x26.Vehicle])) :: oc :: oa :: (cs 2 ((.op (some false) .c) :: oc :: (.op none (.i k3)) :: oc :: (.op none (.v [.str x26.System])) :: oc :: oa :: (cs 2 [.op (some false) .c, oc, .op none (.i k3), oc, .op none (.v [.lst (fl Tapi_Line.enc x26.Lines) x26.Lines.length]), oc, oa, oc, .br false, oc, .fcut 0 .ret [(2, .bool false)] [] [] [(0, .any), (3, .any), (4, .int .i64 (↑(0 : Nat) : Int))] []]))))))) [] (by kernel_rfl) (by kernel_rfl) (k2 (decide_eq_true c25) (k2 (ir h27) (k2 (fl_ne (f := Tapi_Charge.enc) (z := 6) (fun _ => rfl) h27) (k2 (fl_sub (f := Tapi_Charge.enc) (z := 7) (j := k3) (a := 0) (n := 1) (fun _ => rfl) h27 (by decide) rfl) (k2 (decide_eq_false c28) (k2 (ir h27) (k2 (fl_ne (f := Tapi_Charge.enc) (z := 6) (fun _ => rfl) h27) (k2 (fl_sub (f := Tapi_Charge.enc) (z := 7) (j := k3) (a := 1) (n := 1) (fun _ => rfl) h27 (by decide) rfl) (k2 (decide_eq_false c29) (k2 (ir h27) (k2 (fl_ne (f := Tapi_Charge.enc) (z := 6) (fun _ => rfl) h27) (k2 (fl_sub (f := Tapi_Charge.enc) (z := 7) (j := k3) (a := 2) (n := 1) (fun _ => rfl) h27 (by decide) rfl) (k2 (decide_eq_false c30) (k2 (ir h27) (k2 (fl_ne (f := Tapi_Charge.enc) (z := 6) (fun _ => rfl) h27) (k2 (fl_sub (f := Tapi_Charge.enc) (z := 7) (j := k3) (a := 5) (n := 1) (fun _ => rfl) h27 (by decide) rfl) (k2 (decide_eq_false c31) (k2 (rfl : (.int .i64 0 : AV) = .int .i64 (↑(0 : Nat) : Int)) (ok1 (tollwaylaw50_few_L32_does l_0 k3 (s := (0 : Nat)) (r := Sum.inl o32) hl32)))))))))))))))))))), by intro q; cases q⟩
              · dsimp only at h
                obtain ⟨h47, h⟩ := guard_some h
                simp at h
    · obtain rfl := oR h
      exact ⟨Does.of_viewM 0 400 (cs 3 [oa, .br false]) [] (by kernel_rfl) (by kernel_rfl) (ok1 (decide_eq_false c25)), by intro q; cases q⟩
noncomputable def tollwaylaw50_few (l_0 : (List Tapi_Charge)) : Option Bool :=
  (lp (tollwaylaw50_few_L1_step l_0) (0 : Nat)).bind fun qq => match qq with
  | Sum.inl o1 =>
    some false
  | Sum.inr (o1) =>
    some (decide ((↑l_0.length : Int) ≤ (20 : Int)))
theorem tollwaylaw50_few_ret (l_0 : (List Tapi_Charge)) (r : Bool) (h : tollwaylaw50_few l_0 = some r) : Ret Tryz.prog G0 10 [.lst (fl Tapi_Charge.enc l_0) l_0.length] (.bool r) [] := by
  unfold tollwaylaw50_few at h
  obtain ⟨qq, hl1, h⟩ := bind_some h
  rcases qq with o1 | o1
  · dsimp only at h
    obtain rfl := oI h
    exact Ret.of_view 400 (cs 2 [.fcut 0 .ret [(2, .bool false)] [] [] [(0, .any), (3, .int .i64 (↑(0 : Nat) : Int))] []]) [] (by kernel_rfl) (by kernel_rfl) (k2 (rfl : (.int .i64 0 : AV) = .int .i64 (↑(0 : Nat) : Int)) (ok1 (tollwaylaw50_few_L1_does l_0 (s := (0 : Nat)) (r := Sum.inl o1) hl1)))
  · dsimp only at h
    obtain rfl := oI h
    exact Ret.of_view 400 (cs 2 ((.fcut 0 (.exit 0) (tollwaylaw50_few_L1_T l_0 (Sum.inr (o1))) [] [] [(0, .any), (3, .int .i64 (↑(0 : Nat) : Int))] []) :: (cs 2 [oa, oc]))) [] (by kernel_rfl) (by kernel_rfl) (k2 (rfl : (.int .i64 0 : AV) = .int .i64 (↑(0 : Nat) : Int)) (ok1 (tollwaylaw50_few_L1_does l_0 (s := (0 : Nat)) (r := Sum.inr (o1)) hl1)))
end Go.Proofs.YtpadimnchmghpaaGreatDoor.Av
