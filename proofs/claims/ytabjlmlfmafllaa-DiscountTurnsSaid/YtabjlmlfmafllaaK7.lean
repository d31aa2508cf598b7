import Derived.Test.YtabjlmlfmafllaaAvX
import Derived.Test.YtabjlmlfmafllaaProg
import Derived.Tactics
import Derived.Test.YtabjlmlfmafllaaK2
set_option linter.unusedVariables false
set_option linter.unusedSimpArgs false
set_option maxHeartbeats 4000000
namespace Go.Proofs.Ytabjlmlfmafllaa.Av
open Go Go.Proofs
noncomputable def tollwaylaw24_DiscountTurns_L10_step (l_0 : (List Tapi_Discount)) (n_1 : Int) (cents_2 : Int) : (Int × (List Tapi_Discount)) → Option ((Int × (List Tapi_Discount)) ⊕ (List Tapi_Discount))
  | (v9, b0) =>
    if v9 ≥ (Int.tmod n_1 (↑l_0.length : Int)) then
      if (0 : Int) ≤ v9 then
        (l_0[(Int.toNat v9)]?).bind fun x19 =>
        if b0.length + 1 ≤ 4294967296 then
          if InR .i64 (v9 - 1) then
            some (Sum.inl ((v9 - 1), (b0 ++ [x19])))
          else none
        else none
      else none
    else
      some (Sum.inr b0)
def tollwaylaw24_DiscountTurns_L10_H (l_0 : (List Tapi_Discount)) (n_1 : Int) (cents_2 : Int) : (Int × (List Tapi_Discount)) → St := fun (s : (Int × (List Tapi_Discount))) => S 77 [(0, .lst (fl Tapi_Discount.enc l_0) l_0.length), (2, .int .i64 cents_2), (7, .int .i64 (Int.tmod n_1 (↑l_0.length : Int))), (8, .vec 0 s.2.length 10), (9, .int .i64 s.1)] [(bV (fl Tapi_Discount.enc s.2) 41)]
theorem tollwaylaw24_DiscountTurns_L10_0 (l_0 : (List Tapi_Discount)) (n_1 : Int) (cents_2 : Int) (v9 : Int) (b0 : (List Tapi_Discount)) (c17 : v9 ≥ (Int.tmod n_1 (↑l_0.length : Int))) (h18 : (0 : Int) ≤ v9) (x19 : Tapi_Discount) (h20 : l_0[(Int.toNat v9)]? = some x19) (h21 : b0.length + 1 ≤ 4294967296) (h22 : InR .i64 (v9 - 1)) : Does Try.prog G0 0 (bodyAt Try.prog 7 [1, 1, 1, 1, 0, 1, 0, 0]) (tollwaylaw24_DiscountTurns_L10_H l_0 n_1 cents_2 (v9, b0)) .normal (S 77 [(0, .lst (fl Tapi_Discount.enc l_0) l_0.length), (2, .int .i64 cents_2), (7, .int .i64 (Int.tmod n_1 (↑l_0.length : Int))), (8, .vec 0 ((b0 ++ [x19]).length) 10), (9, .int .i64 (v9 - 1))] [(bV (fl Tapi_Discount.enc (b0 ++ [x19])) 41)]) :=
  Does.of_viewM 0 400 (cs 2 ((.op none .a) :: (.br true) :: (cs 3 ((.op none (.i (Int.toNat v9))) :: (.op none (.v [.str x19.Name, .int .i64 x19.Kind, .int .i64 x19.Amount, .str x19.Group, .str x19.System, .int .i64 x19.Class, .int .i64 x19.Window.Days, .int .i64 x19.Window.From, .int .i64 x19.Window.To, .int .i64 x19.Least])) :: (.op none .c) :: (.op none (.ap 4)) :: (.tr (.eqc 2 (fl Tapi_Discount.enc (b0 ++ [x19])))) :: (.tr (.eqt (.t 44) (.vec 2 ((b0 ++ [x19]).length) 10))) :: (cs 2 [.op none .w, .op none .c]))))) [2] (ps := [((decide (v9 ≥ (Int.tmod n_1 (↑l_0.length : Int)))) = true), (v9 = (((Int.toNat v9) : Nat) : Int) ∧ (Int.toNat v9) < l_0.length), ((fl Tapi_Discount.enc l_0) ≠ []), (sub (fl Tapi_Discount.enc l_0) ((Int.toNat v9) * 10) 10 = [.str x19.Name, .int .i64 x19.Kind, .int .i64 x19.Amount, .str x19.Group, .str x19.System, .int .i64 x19.Class, .int .i64 x19.Window.Days, .int .i64 x19.Window.From, .int .i64 x19.Window.To, .int .i64 x19.Least]), (0 + 10 ≤ List.length ([.str x19.Name, .int .i64 x19.Kind, .int .i64 x19.Amount, .str x19.Group, .str x19.System, .int .i64 x19.Class, .int .i64 x19.Window.Days, .int .i64 x19.Window.From, .int .i64 x19.Window.To, .int .i64 x19.Least] : List AV)), (List.length ((fl Tapi_Discount.enc b0) : List AV) = (b0.length * 10)), (List.all ([.str x19.Name, .int .i64 x19.Kind, .int .i64 x19.Amount, .str x19.Group, .str x19.System, .int .i64 x19.Class, .int .i64 x19.Window.Days, .int .i64 x19.Window.From, .int .i64 x19.Window.To, .int .i64 x19.Least] : List AV) AV.one = true), (b0.length + 1 ≤ 4294967296), ((fl Tapi_Discount.enc b0) ++ [.str x19.Name, .int .i64 x19.Kind, .int .i64 x19.Amount, .str x19.Group, .str x19.System, .int .i64 x19.Class, .int .i64 x19.Window.Days, .int .i64 x19.Window.From, .int .i64 x19.Window.To, .int .i64 x19.Least] = (fl Tapi_Discount.enc (b0 ++ [x19]))), ((.vec 2 (b0.length + 1) 10 : AV) = .vec 2 ((b0 ++ [x19]).length) 10), (IntKind.min .i64 ≤ (v9 - 1) ∧ (v9 - 1) ≤ IntKind.max .i64)]) (by kernel_rfl) (by kernel_rfl) ⟨(decide_eq_true c17), ⟨(Int.toNat_of_nonneg h18).symm, get_lt h20⟩, (fl_ne (f := Tapi_Discount.enc) (z := 9) (fun _ => rfl) h20), (fl_sub0 (f := Tapi_Discount.enc) (z := 10) (j := (Int.toNat v9)) (fun _ => rfl) h20 rfl), (Nat.le_of_ble_eq_true rfl), (fl_length (f := Tapi_Discount.enc) (z := 10) (fun _ => rfl) _), rfl, h21, (fl_snoc rfl), (by simp <;> omega), ok1 h22⟩
theorem tollwaylaw24_DiscountTurns_L10_1 (l_0 : (List Tapi_Discount)) (n_1 : Int) (cents_2 : Int) (v9 : Int) (b0 : (List Tapi_Discount)) (c17 : ¬ (v9 ≥ (Int.tmod n_1 (↑l_0.length : Int)))) : Does Try.prog G0 0 (bodyAt Try.prog 7 [1, 1, 1, 1, 0, 1, 0, 0]) (tollwaylaw24_DiscountTurns_L10_H l_0 n_1 cents_2 (v9, b0)) (.exit 0) (S 77 [(0, .lst (fl Tapi_Discount.enc l_0) l_0.length), (2, .int .i64 cents_2), (7, .int .i64 (Int.tmod n_1 (↑l_0.length : Int))), (8, .vec 0 b0.length 10)] [(bV (fl Tapi_Discount.enc b0) 41)]) :=
  Does.of_viewM 0 400 (cs 2 [.op none .a, .br false]) [0] (ps := [((decide (v9 ≥ (Int.tmod n_1 (↑l_0.length : Int)))) = false)]) (by kernel_rfl) (by kernel_rfl) (ok1 (decide_eq_false c17))
def tollwaylaw24_DiscountTurns_L10_X (l_0 : (List Tapi_Discount)) (n_1 : Int) (cents_2 : Int) : (List Tapi_Discount) → AEx := fun o => (.exit 0)
def tollwaylaw24_DiscountTurns_L10_E (l_0 : (List Tapi_Discount)) (n_1 : Int) (cents_2 : Int) : (List Tapi_Discount) → St := fun o => S 77 [(0, .lst (fl Tapi_Discount.enc l_0) l_0.length), (2, .int .i64 cents_2), (7, .int .i64 (Int.tmod n_1 (↑l_0.length : Int))), (8, .vec 0 o.length 10)] [(bV (fl Tapi_Discount.enc o) 41)]
theorem tollwaylaw24_DiscountTurns_L10_does (l_0 : (List Tapi_Discount)) (n_1 : Int) (cents_2 : Int) {s : (Int × (List Tapi_Discount))} {r : (List Tapi_Discount)} (h : lp (tollwaylaw24_DiscountTurns_L10_step l_0 n_1 cents_2) s = some r) : Does Try.prog G0 0 (.loop (bodyAt Try.prog 7 [1, 1, 1, 1, 0, 1, 0, 0])) (tollwaylaw24_DiscountTurns_L10_H l_0 n_1 cents_2 s) (tollwaylaw24_DiscountTurns_L10_X l_0 n_1 cents_2 r) (tollwaylaw24_DiscountTurns_L10_E l_0 n_1 cents_2 r) := by
  refine Does.lp (H := tollwaylaw24_DiscountTurns_L10_H l_0 n_1 cents_2) (X := tollwaylaw24_DiscountTurns_L10_X l_0 n_1 cents_2) (E := tollwaylaw24_DiscountTurns_L10_E l_0 n_1 cents_2) (fun s s2 h => ?_) (fun s r h => ?_) h
  · obtain ⟨v9, b0⟩ := s
    unfold tollwaylaw24_DiscountTurns_L10_step at h
    try dsimp only at h
    rcases ite_some h with ⟨c17, h⟩ | ⟨c17, h⟩
    · obtain ⟨h18, h⟩ := guard_some h
      obtain ⟨x19, h20, h⟩ := bind_some h
      obtain ⟨h21, h⟩ := guard_some h
      obtain ⟨h22, h⟩ := guard_some h
      simp only [Option.some.injEq, Sum.inl.injEq] at h
      subst h
      have hq := tollwaylaw24_DiscountTurns_L10_0 l_0 n_1 cents_2 v9 b0 c17 h18 x19 h20 h21 h22
      first | exact hq | exact Eq.mp (by simp only [tollwaylaw24_DiscountTurns_L10_H, List.length_set] <;> rfl) hq
    · simp at h
  · obtain ⟨v9, b0⟩ := s
    unfold tollwaylaw24_DiscountTurns_L10_step at h
    try dsimp only at h
    rcases ite_some h with ⟨c17, h⟩ | ⟨c17, h⟩
    · obtain ⟨h18, h⟩ := guard_some h
      obtain ⟨x19, h20, h⟩ := bind_some h
      obtain ⟨h21, h⟩ := guard_some h
      obtain ⟨h22, h⟩ := guard_some h
      simp at h
    · simp only [Option.some.injEq, Sum.inr.injEq] at h
      subst h
      exact ⟨tollwaylaw24_DiscountTurns_L10_1 l_0 n_1 cents_2 v9 b0 c17, by intro q; cases q⟩
noncomputable def tollwaylaw24_DiscountTurns (l_0 : (List Tapi_Discount)) (n_1 : Int) (cents_2 : Int) : Option Bool :=
  (tollwaylaw24_few l_0).bind fun r1 =>
  if r1 = true then
    if (↑l_0.length : Int) = (0 : Int) then
      (awakeF).bind fun r5 =>
      some r5
    else
      if InR .i64 (n_1) then
        if (↑l_0.length : Int) ≠ (0 : Int) then
          if InR .i64 ((↑l_0.length : Int) - 1) then
            (lp (tollwaylaw24_DiscountTurns_L10_step l_0 n_1 cents_2) (((↑l_0.length : Int) - 1), ([] : (List Tapi_Discount)))).bind fun o10 =>
            if (0 : Int) ≤ (Int.tmod n_1 (↑l_0.length : Int)) then
              if (Int.toNat (Int.tmod n_1 (↑l_0.length : Int))) ≤ l_0.length then
                if o10.length + ((List.take (Int.toNat (Int.tmod n_1 (↑l_0.length : Int))) l_0).length) ≤ 4294967296 then
                  (discount_Best l_0 cents_2).bind fun r26 =>
                  (discount_Best (o10 ++ (List.take (Int.toNat (Int.tmod n_1 (↑l_0.length : Int))) l_0)) cents_2).bind fun r28 =>
                  if (r26.2.2 == (0 : Int)) = (r28.2.2 == (0 : Int)) then
                    if r26.2.1 = r28.2.1 then
                      (awakeF).bind fun r32 =>
                      some r32
                    else
                      some false
                  else
                    some false
                else none
              else none
            else none
          else none
        else none
      else none
  else
    (awakeF).bind fun r34 =>
    some r34
def tollwaylaw24_DiscountTurns_h1 (l_0 : (List Tapi_Discount)) (r1 : Bool) : List CH := (cs 2 ((.ret none [.lst (fl Tapi_Discount.enc l_0) l_0.length] (.bool r1) []) :: (cs 2 [])))
def tollwaylaw24_DiscountTurns_h2  : List CH := [.op (some false) .c, .op none .c, .op none .a, .op none .c]
def tollwaylaw24_DiscountTurns_h3 (l_0 : (List Tapi_Discount)) (n_1 : Int) (cents_2 : Int) (o10 : (List Tapi_Discount)) (r26 : ((List Int) × Int × Int)) (r28 : ((List Int) × Int × Int)) : List CH := ((.br false) :: (.op none .c) :: (.op none .w) :: (cs 2 ((.op none .a) :: (cs 4 ((.op none .w) :: (.op none .c) :: (.tr (.vec (.t 8) 10 41)) :: (.fcut 0 (.exit 0) [(0, .lst (fl Tapi_Discount.enc l_0) l_0.length), (2, .int .i64 cents_2), (7, .int .i64 (Int.tmod n_1 (↑l_0.length : Int))), (8, .vec 0 o10.length 10)] [(bV (fl Tapi_Discount.enc o10) 41)] [0] [(0, .lst (fl Tapi_Discount.enc l_0) l_0.length), (2, .int .i64 cents_2), (7, .int .i64 (Int.tmod n_1 (↑l_0.length : Int))), (8, .vec 0 (([] : (List Tapi_Discount)).length) 10), (9, .int .i64 ((↑l_0.length : Int) - 1))] [(bV (fl Tapi_Discount.enc ([] : (List Tapi_Discount))) 41)]) :: (cs 3 ((.op none (.s 0 (Int.toNat (Int.tmod n_1 (↑l_0.length : Int))))) :: (.tr (.eqt (.t 48) (.lst (fl Tapi_Discount.enc (List.take (Int.toNat (Int.tmod n_1 (↑l_0.length : Int))) l_0)) ((List.take (Int.toNat (Int.tmod n_1 (↑l_0.length : Int))) l_0).length)))) :: (.op none (.ap 4)) :: (.tr (.eqc 2 (fl Tapi_Discount.enc (o10 ++ (List.take (Int.toNat (Int.tmod n_1 (↑l_0.length : Int))) l_0))))) :: (.tr (.eqt (.t 49) (.vec 2 ((o10 ++ (List.take (Int.toNat (Int.tmod n_1 (↑l_0.length : Int))) l_0)).length) 10))) :: (cs 3 ((.ret none [.lst (fl Tapi_Discount.enc l_0) l_0.length, .int .i64 cents_2] (.tup [.vec 0 r26.1.length 1, .int .i64 r26.2.1, .int .i64 r26.2.2]) [(bV (fl e_i64 r26.1) 3)]) :: (cs 9 ((.ret none [.lst (fl Tapi_Discount.enc (o10 ++ (List.take (Int.toNat (Int.tmod n_1 (↑l_0.length : Int))) l_0))) ((o10 ++ (List.take (Int.toNat (Int.tmod n_1 (↑l_0.length : Int))) l_0)).length), .int .i64 cents_2] (.tup [.vec 0 r28.1.length 1, .int .i64 r28.2.1, .int .i64 r28.2.2]) [(bV (fl e_i64 r28.1) 3)]) :: (cs 8 ((.op none .a) :: (.op none .c) :: (.op none .a) :: (cs 2 []))))))))))))))
def tollwaylaw24_DiscountTurns_h4  : List CH := ((.op (some true) .c) :: (.op none .c) :: (.op none .a) :: (cs 2 []))
def tollwaylaw24_DiscountTurns_p5 (l_0 : (List Tapi_Discount)) (n_1 : Int) (cents_2 : Int) (o10 : (List Tapi_Discount)) (r26 : ((List Int) × Int × Int)) (r28 : ((List Int) × Int × Int)) : List Prop := [(((↑l_0.length : Int) == (0 : Int)) = false), (IntKind.min .i64 ≤ n_1 ∧ n_1 ≤ IntKind.max .i64), ((↑l_0.length : Int) ≠ (0 : Int)), (IntKind.min .i64 ≤ ((↑l_0.length : Int) - 1) ∧ ((↑l_0.length : Int) - 1) ≤ IntKind.max .i64), ((.lst (fl Tapi_Discount.enc l_0) l_0.length : AV) = .lst (fl Tapi_Discount.enc l_0) l_0.length), ((.int .i64 cents_2 : AV) = .int .i64 cents_2), ((.int .i64 (Int.tmod n_1 (↑l_0.length : Int)) : AV) = .int .i64 (Int.tmod n_1 (↑l_0.length : Int))), ((.vec 0 0 10 : AV) = .vec 0 (([] : (List Tapi_Discount)).length) 10), ((.int .i64 ((↑l_0.length : Int) - 1) : AV) = .int .i64 ((↑l_0.length : Int) - 1)), (((bV [] 41) : Blk) = renB [0] (bV (fl Tapi_Discount.enc ([] : (List Tapi_Discount))) 41)), (Does Try.prog G0 0 (.loop (bodyAt Try.prog 7 [1, 1, 1, 1, 0, 1, 0, 0])) (S 77 [(0, .lst (fl Tapi_Discount.enc l_0) l_0.length), (2, .int .i64 cents_2), (7, .int .i64 (Int.tmod n_1 (↑l_0.length : Int))), (8, .vec 0 (([] : (List Tapi_Discount)).length) 10), (9, .int .i64 ((↑l_0.length : Int) - 1))] [(bV (fl Tapi_Discount.enc ([] : (List Tapi_Discount))) 41)]) (.exit 0) (S 77 [(0, .lst (fl Tapi_Discount.enc l_0) l_0.length), (2, .int .i64 cents_2), (7, .int .i64 (Int.tmod n_1 (↑l_0.length : Int))), (8, .vec 0 o10.length 10)] [(bV (fl Tapi_Discount.enc o10) 41)])), ((Int.tmod n_1 (↑l_0.length : Int)) = (((Int.toNat (Int.tmod n_1 (↑l_0.length : Int))) : Nat) : Int)), (0 ≤ (Int.toNat (Int.tmod n_1 (↑l_0.length : Int))) ∧ (Int.toNat (Int.tmod n_1 (↑l_0.length : Int))) ≤ l_0.length), ((.lst (List.take ((Int.toNat (Int.tmod n_1 (↑l_0.length : Int))) * 10) (fl Tapi_Discount.enc l_0)) (Int.toNat (Int.tmod n_1 (↑l_0.length : Int))) : AV) = .lst (fl Tapi_Discount.enc (List.take (Int.toNat (Int.tmod n_1 (↑l_0.length : Int))) l_0)) ((List.take (Int.toNat (Int.tmod n_1 (↑l_0.length : Int))) l_0).length)), (List.length ((fl Tapi_Discount.enc (List.take (Int.toNat (Int.tmod n_1 (↑l_0.length : Int))) l_0)) : List AV) = (((List.take (Int.toNat (Int.tmod n_1 (↑l_0.length : Int))) l_0).length) * 10)), (List.length ((fl Tapi_Discount.enc o10) : List AV) = (o10.length * 10)), (List.all ((fl Tapi_Discount.enc (List.take (Int.toNat (Int.tmod n_1 (↑l_0.length : Int))) l_0)) : List AV) AV.one = true), (o10.length + ((List.take (Int.toNat (Int.tmod n_1 (↑l_0.length : Int))) l_0).length) ≤ 4294967296), ((fl Tapi_Discount.enc o10) ++ (fl Tapi_Discount.enc (List.take (Int.toNat (Int.tmod n_1 (↑l_0.length : Int))) l_0)) = (fl Tapi_Discount.enc (o10 ++ (List.take (Int.toNat (Int.tmod n_1 (↑l_0.length : Int))) l_0)))), ((.vec 2 (o10.length + ((List.take (Int.toNat (Int.tmod n_1 (↑l_0.length : Int))) l_0).length)) 10 : AV) = .vec 2 ((o10 ++ (List.take (Int.toNat (Int.tmod n_1 (↑l_0.length : Int))) l_0)).length) 10), ((.lst (fl Tapi_Discount.enc l_0) l_0.length : AV) = .lst (fl Tapi_Discount.enc l_0) l_0.length), ((.int .i64 cents_2 : AV) = .int .i64 cents_2), (Ret Try.prog G0 10 [.lst (fl Tapi_Discount.enc l_0) l_0.length, .int .i64 cents_2] (.tup [.vec 0 r26.1.length 1, .int .i64 r26.2.1, .int .i64 r26.2.2]) [(bV (fl e_i64 r26.1) 3)]), ((fl Tapi_Discount.enc (o10 ++ (List.take (Int.toNat (Int.tmod n_1 (↑l_0.length : Int))) l_0))) = (fl Tapi_Discount.enc (o10 ++ (List.take (Int.toNat (Int.tmod n_1 (↑l_0.length : Int))) l_0))) ∧ ((o10 ++ (List.take (Int.toNat (Int.tmod n_1 (↑l_0.length : Int))) l_0)).length) = ((o10 ++ (List.take (Int.toNat (Int.tmod n_1 (↑l_0.length : Int))) l_0)).length) ∧ List.length ((fl Tapi_Discount.enc (o10 ++ (List.take (Int.toNat (Int.tmod n_1 (↑l_0.length : Int))) l_0))) : List AV) = (((o10 ++ (List.take (Int.toNat (Int.tmod n_1 (↑l_0.length : Int))) l_0)).length) * 10)), ((.int .i64 cents_2 : AV) = .int .i64 cents_2), (datBlks [(bV (fl e_i64 r28.1) 3)]), (Ret Try.prog G0 10 [.lst (fl Tapi_Discount.enc (o10 ++ (List.take (Int.toNat (Int.tmod n_1 (↑l_0.length : Int))) l_0))) ((o10 ++ (List.take (Int.toNat (Int.tmod n_1 (↑l_0.length : Int))) l_0)).length), .int .i64 cents_2] (.tup [.vec 0 r28.1.length 1, .int .i64 r28.2.1, .int .i64 r28.2.2]) [(bV (fl e_i64 r28.1) 3)])]
theorem tollwaylaw24_DiscountTurns_p5q (l_0 : (List Tapi_Discount)) (n_1 : Int) (cents_2 : Int) (c4 : ¬ ((↑l_0.length : Int) = (0 : Int))) (h7 : InR .i64 (n_1)) (h8 : (↑l_0.length : Int) ≠ (0 : Int)) (h9 : InR .i64 ((↑l_0.length : Int) - 1)) (o10 : (List Tapi_Discount)) (hl10 : lp (tollwaylaw24_DiscountTurns_L10_step l_0 n_1 cents_2) (((↑l_0.length : Int) - 1), ([] : (List Tapi_Discount))) = some o10) (h23 : (0 : Int) ≤ (Int.tmod n_1 (↑l_0.length : Int))) (h24 : (Int.toNat (Int.tmod n_1 (↑l_0.length : Int))) ≤ l_0.length) (h25 : o10.length + ((List.take (Int.toNat (Int.tmod n_1 (↑l_0.length : Int))) l_0).length) ≤ 4294967296) (r26 : ((List Int) × Int × Int)) (h27 : discount_Best l_0 cents_2 = some r26) (r28 : ((List Int) × Int × Int)) (h29 : discount_Best (o10 ++ (List.take (Int.toNat (Int.tmod n_1 (↑l_0.length : Int))) l_0)) cents_2 = some r28) : allOk (tollwaylaw24_DiscountTurns_p5 l_0 n_1 cents_2 o10 r26 r28) := ⟨(beq_f c4), h7, h8, h9, rfl, rfl, rfl, (by first | rfl | simp only [List.length_replicate, List.length_set]), rfl, rfl, (tollwaylaw24_DiscountTurns_L10_does l_0 n_1 cents_2 (s := (((↑l_0.length : Int) - 1), ([] : (List Tapi_Discount)))) (r := o10) hl10), (Int.toNat_of_nonneg h23).symm, ⟨Nat.zero_le _, h24⟩, (lst_eq (fl_take (f := Tapi_Discount.enc) (z := 10) (fun _ => rfl) _ _) (by rw [List.length_take]; omega)), (fl_length (f := Tapi_Discount.enc) (z := 10) (fun _ => rfl) _), (fl_length (f := Tapi_Discount.enc) (z := 10) (fun _ => rfl) _), (all_one (f := Tapi_Discount.enc) (fun _ => rfl) _), h25, fl_app.symm, (by simp <;> omega), rfl, rfl, (discount_Best_ret l_0 cents_2 r26 h27), ⟨rfl, rfl, (fl_length (f := Tapi_Discount.enc) (z := 10) (fun _ => rfl) _)⟩, rfl, ⟨(fl_dat (f := e_i64) (fun _ => rfl)), trivial⟩, ok1 (discount_Best_ret (o10 ++ (List.take (Int.toNat (Int.tmod n_1 (↑l_0.length : Int))) l_0)) cents_2 r28 h29)⟩
theorem tollwaylaw24_DiscountTurns_0 (l_0 : (List Tapi_Discount)) (n_1 : Int) (cents_2 : Int) (r1 : Bool) (h2 : tollwaylaw24_few l_0 = some r1) (c3 : r1 = true) (c4 : (↑l_0.length : Int) = (0 : Int)) (r5 : Bool) (h6 : awakeF = some r5) : Ret Try.prog G0 7 [.lst (fl Tapi_Discount.enc l_0) l_0.length, .int .u8 n_1, .int .i64 cents_2] (.bool r5) [] :=
  Ret.of_view 400 ((tollwaylaw24_DiscountTurns_h1 l_0 r1) ++ ((tollwaylaw24_DiscountTurns_h2) ++ [.br true, .ret none [] (.bool r5) [], .op none .c])) [] (ps := ([((.lst (fl Tapi_Discount.enc l_0) l_0.length : AV) = .lst (fl Tapi_Discount.enc l_0) l_0.length), (Ret Try.prog G0 8 [.lst (fl Tapi_Discount.enc l_0) l_0.length] (.bool r1) [])] ++ ([((!r1) = false)] ++ [(((↑l_0.length : Int) == (0 : Int)) = true), (Ret Try.prog G0 9 [] (.bool r5) [])]))) (by kernel_rfl) (by kernel_rfl) (allOk_append.2 ⟨⟨rfl, ok1 (tollwaylaw24_few_ret l_0 r1 h2)⟩, (allOk_append.2 ⟨(ok1 (not_f c3)), ⟨(beq_t c4), ok1 (awake24_ret r5 h6)⟩⟩)⟩)
theorem tollwaylaw24_DiscountTurns_1 (l_0 : (List Tapi_Discount)) (n_1 : Int) (cents_2 : Int) (r1 : Bool) (h2 : tollwaylaw24_few l_0 = some r1) (c3 : r1 = true) (c4 : ¬ ((↑l_0.length : Int) = (0 : Int))) (h7 : InR .i64 (n_1)) (h8 : (↑l_0.length : Int) ≠ (0 : Int)) (h9 : InR .i64 ((↑l_0.length : Int) - 1)) (o10 : (List Tapi_Discount)) (hl10 : lp (tollwaylaw24_DiscountTurns_L10_step l_0 n_1 cents_2) (((↑l_0.length : Int) - 1), ([] : (List Tapi_Discount))) = some o10) (h23 : (0 : Int) ≤ (Int.tmod n_1 (↑l_0.length : Int))) (h24 : (Int.toNat (Int.tmod n_1 (↑l_0.length : Int))) ≤ l_0.length) (h25 : o10.length + ((List.take (Int.toNat (Int.tmod n_1 (↑l_0.length : Int))) l_0).length) ≤ 4294967296) (r26 : ((List Int) × Int × Int)) (h27 : discount_Best l_0 cents_2 = some r26) (r28 : ((List Int) × Int × Int)) (h29 : discount_Best (o10 ++ (List.take (Int.toNat (Int.tmod n_1 (↑l_0.length : Int))) l_0)) cents_2 = some r28) (c30 : (r26.2.2 == (0 : Int)) = (r28.2.2 == (0 : Int))) (c31 : r26.2.1 = r28.2.1) (r32 : Bool) (h33 : awakeF = some r32) : Ret Try.prog G0 7 [.lst (fl Tapi_Discount.enc l_0) l_0.length, .int .u8 n_1, .int .i64 cents_2] (.bool r32) [] :=
  Ret.of_view 400 ((tollwaylaw24_DiscountTurns_h1 l_0 r1) ++ ((tollwaylaw24_DiscountTurns_h2) ++ ((tollwaylaw24_DiscountTurns_h3 l_0 n_1 cents_2 o10 r26 r28) ++ ((tollwaylaw24_DiscountTurns_h4) ++ ((.ret (some true) [] (.bool r32) []) :: (cs 2 [])))))) [] (ps := ([((.lst (fl Tapi_Discount.enc l_0) l_0.length : AV) = .lst (fl Tapi_Discount.enc l_0) l_0.length), (Ret Try.prog G0 8 [.lst (fl Tapi_Discount.enc l_0) l_0.length] (.bool r1) [])] ++ ([((!r1) = false)] ++ ((tollwaylaw24_DiscountTurns_p5 l_0 n_1 cents_2 o10 r26 r28) ++ ([(((r26.2.2 == (0 : Int)) == (r28.2.2 == (0 : Int))) = true)] ++ [((r26.2.1 == r28.2.1) = true), (Ret Try.prog G0 9 [] (.bool r32) [])]))))) (by kernel_rfl) (by kernel_rfl) (allOk_append.2 ⟨⟨rfl, ok1 (tollwaylaw24_few_ret l_0 r1 h2)⟩, (allOk_append.2 ⟨(ok1 (not_f c3)), (allOk_append.2 ⟨(tollwaylaw24_DiscountTurns_p5q l_0 n_1 cents_2 c4 h7 h8 h9 o10 hl10 h23 h24 h25 r26 h27 r28 h29), (allOk_append.2 ⟨(ok1 (beq_t c30)), ⟨(beq_t c31), ok1 (awake24_ret r32 h33)⟩⟩)⟩)⟩)⟩)
theorem tollwaylaw24_DiscountTurns_2 (l_0 : (List Tapi_Discount)) (n_1 : Int) (cents_2 : Int) (r1 : Bool) (h2 : tollwaylaw24_few l_0 = some r1) (c3 : r1 = true) (c4 : ¬ ((↑l_0.length : Int) = (0 : Int))) (h7 : InR .i64 (n_1)) (h8 : (↑l_0.length : Int) ≠ (0 : Int)) (h9 : InR .i64 ((↑l_0.length : Int) - 1)) (o10 : (List Tapi_Discount)) (hl10 : lp (tollwaylaw24_DiscountTurns_L10_step l_0 n_1 cents_2) (((↑l_0.length : Int) - 1), ([] : (List Tapi_Discount))) = some o10) (h23 : (0 : Int) ≤ (Int.tmod n_1 (↑l_0.length : Int))) (h24 : (Int.toNat (Int.tmod n_1 (↑l_0.length : Int))) ≤ l_0.length) (h25 : o10.length + ((List.take (Int.toNat (Int.tmod n_1 (↑l_0.length : Int))) l_0).length) ≤ 4294967296) (r26 : ((List Int) × Int × Int)) (h27 : discount_Best l_0 cents_2 = some r26) (r28 : ((List Int) × Int × Int)) (h29 : discount_Best (o10 ++ (List.take (Int.toNat (Int.tmod n_1 (↑l_0.length : Int))) l_0)) cents_2 = some r28) (c30 : (r26.2.2 == (0 : Int)) = (r28.2.2 == (0 : Int))) (c31 : ¬ (r26.2.1 = r28.2.1)) : Ret Try.prog G0 7 [.lst (fl Tapi_Discount.enc l_0) l_0.length, .int .u8 n_1, .int .i64 cents_2] (.bool false) [] :=
  Ret.of_view 400 ((tollwaylaw24_DiscountTurns_h1 l_0 r1) ++ ((tollwaylaw24_DiscountTurns_h2) ++ ((tollwaylaw24_DiscountTurns_h3 l_0 n_1 cents_2 o10 r26 r28) ++ ((tollwaylaw24_DiscountTurns_h4) ++ ((.op (some false) .c) :: (cs 2 [])))))) [] (ps := ([((.lst (fl Tapi_Discount.enc l_0) l_0.length : AV) = .lst (fl Tapi_Discount.enc l_0) l_0.length), (Ret Try.prog G0 8 [.lst (fl Tapi_Discount.enc l_0) l_0.length] (.bool r1) [])] ++ ([((!r1) = false)] ++ ((tollwaylaw24_DiscountTurns_p5 l_0 n_1 cents_2 o10 r26 r28) ++ ([(((r26.2.2 == (0 : Int)) == (r28.2.2 == (0 : Int))) = true)] ++ [((r26.2.1 == r28.2.1) = false)]))))) (by kernel_rfl) (by kernel_rfl) (allOk_append.2 ⟨⟨rfl, ok1 (tollwaylaw24_few_ret l_0 r1 h2)⟩, (allOk_append.2 ⟨(ok1 (not_f c3)), (allOk_append.2 ⟨(tollwaylaw24_DiscountTurns_p5q l_0 n_1 cents_2 c4 h7 h8 h9 o10 hl10 h23 h24 h25 r26 h27 r28 h29), (allOk_append.2 ⟨(ok1 (beq_t c30)), (ok1 (beq_f c31))⟩)⟩)⟩)⟩)
theorem tollwaylaw24_DiscountTurns_3 (l_0 : (List Tapi_Discount)) (n_1 : Int) (cents_2 : Int) (r1 : Bool) (h2 : tollwaylaw24_few l_0 = some r1) (c3 : r1 = true) (c4 : ¬ ((↑l_0.length : Int) = (0 : Int))) (h7 : InR .i64 (n_1)) (h8 : (↑l_0.length : Int) ≠ (0 : Int)) (h9 : InR .i64 ((↑l_0.length : Int) - 1)) (o10 : (List Tapi_Discount)) (hl10 : lp (tollwaylaw24_DiscountTurns_L10_step l_0 n_1 cents_2) (((↑l_0.length : Int) - 1), ([] : (List Tapi_Discount))) = some o10) (h23 : (0 : Int) ≤ (Int.tmod n_1 (↑l_0.length : Int))) (h24 : (Int.toNat (Int.tmod n_1 (↑l_0.length : Int))) ≤ l_0.length) (h25 : o10.length + ((List.take (Int.toNat (Int.tmod n_1 (↑l_0.length : Int))) l_0).length) ≤ 4294967296) (r26 : ((List Int) × Int × Int)) (h27 : discount_Best l_0 cents_2 = some r26) (r28 : ((List Int) × Int × Int)) (h29 : discount_Best (o10 ++ (List.take (Int.toNat (Int.tmod n_1 (↑l_0.length : Int))) l_0)) cents_2 = some r28) (c30 : ¬ ((r26.2.2 == (0 : Int)) = (r28.2.2 == (0 : Int)))) : Ret Try.prog G0 7 [.lst (fl Tapi_Discount.enc l_0) l_0.length, .int .u8 n_1, .int .i64 cents_2] (.bool false) [] :=
  Ret.of_view 400 ((tollwaylaw24_DiscountTurns_h1 l_0 r1) ++ ((tollwaylaw24_DiscountTurns_h2) ++ ((tollwaylaw24_DiscountTurns_h3 l_0 n_1 cents_2 o10 r26 r28) ++ ((.op (some false) .c) :: (cs 7 []))))) [] (ps := ([((.lst (fl Tapi_Discount.enc l_0) l_0.length : AV) = .lst (fl Tapi_Discount.enc l_0) l_0.length), (Ret Try.prog G0 8 [.lst (fl Tapi_Discount.enc l_0) l_0.length] (.bool r1) [])] ++ ([((!r1) = false)] ++ ((tollwaylaw24_DiscountTurns_p5 l_0 n_1 cents_2 o10 r26 r28) ++ [(((r26.2.2 == (0 : Int)) == (r28.2.2 == (0 : Int))) = false)])))) (by kernel_rfl) (by kernel_rfl) (allOk_append.2 ⟨⟨rfl, ok1 (tollwaylaw24_few_ret l_0 r1 h2)⟩, (allOk_append.2 ⟨(ok1 (not_f c3)), (allOk_append.2 ⟨(tollwaylaw24_DiscountTurns_p5q l_0 n_1 cents_2 c4 h7 h8 h9 o10 hl10 h23 h24 h25 r26 h27 r28 h29), (ok1 (beq_f c30))⟩)⟩)⟩)
theorem tollwaylaw24_DiscountTurns_4 (l_0 : (List Tapi_Discount)) (n_1 : Int) (cents_2 : Int) (r1 : Bool) (h2 : tollwaylaw24_few l_0 = some r1) (c3 : ¬ (r1 = true)) (r34 : Bool) (h35 : awakeF = some r34) : Ret Try.prog G0 7 [.lst (fl Tapi_Discount.enc l_0) l_0.length, .int .u8 n_1, .int .i64 cents_2] (.bool r34) [] :=
  Ret.of_view 400 ((tollwaylaw24_DiscountTurns_h1 l_0 r1) ++ ((.op (some true) .c) :: (cs 3 [.br true, .ret none [] (.bool r34) [], .op none .c]))) [] (ps := ([((.lst (fl Tapi_Discount.enc l_0) l_0.length : AV) = .lst (fl Tapi_Discount.enc l_0) l_0.length), (Ret Try.prog G0 8 [.lst (fl Tapi_Discount.enc l_0) l_0.length] (.bool r1) [])] ++ [((!r1) = true), (true = true), (Ret Try.prog G0 9 [] (.bool r34) [])])) (by kernel_rfl) (by kernel_rfl) (allOk_append.2 ⟨⟨rfl, ok1 (tollwaylaw24_few_ret l_0 r1 h2)⟩, ⟨(not_t (eq_false_of_ne_true c3)), rfl, ok1 (awake24_ret r34 h35)⟩⟩)
theorem tollwaylaw24_DiscountTurns_ret (l_0 : (List Tapi_Discount)) (n_1 : Int) (cents_2 : Int) (r : Bool) (h : tollwaylaw24_DiscountTurns l_0 n_1 cents_2 = some r) : Ret Try.prog G0 7 [.lst (fl Tapi_Discount.enc l_0) l_0.length, .int .u8 n_1, .int .i64 cents_2] (.bool r) [] := by
  unfold tollwaylaw24_DiscountTurns at h
  obtain ⟨r1, h2, h⟩ := bind_some h
  rcases ite_some h with ⟨c3, h⟩ | ⟨c3, h⟩
  · rcases ite_some h with ⟨c4, h⟩ | ⟨c4, h⟩
    · obtain ⟨r5, h6, h⟩ := bind_some h
      simp only [Option.some.injEq] at h
      subst h
      exact tollwaylaw24_DiscountTurns_0 l_0 n_1 cents_2 r1 h2 c3 c4 r5 h6
    · obtain ⟨h7, h⟩ := guard_some h
      obtain ⟨h8, h⟩ := guard_some h
      obtain ⟨h9, h⟩ := guard_some h
      obtain ⟨o10, hl10, h⟩ := bind_some h
      obtain ⟨h23, h⟩ := guard_some h
      obtain ⟨h24, h⟩ := guard_some h
      obtain ⟨h25, h⟩ := guard_some h
      obtain ⟨r26, h27, h⟩ := bind_some h
      obtain ⟨r28, h29, h⟩ := bind_some h
      rcases ite_some h with ⟨c30, h⟩ | ⟨c30, h⟩
      · rcases ite_some h with ⟨c31, h⟩ | ⟨c31, h⟩
        · obtain ⟨r32, h33, h⟩ := bind_some h
          simp only [Option.some.injEq] at h
          subst h
          exact tollwaylaw24_DiscountTurns_1 l_0 n_1 cents_2 r1 h2 c3 c4 h7 h8 h9 o10 hl10 h23 h24 h25 r26 h27 r28 h29 c30 c31 r32 h33
        · simp only [Option.some.injEq] at h
          subst h
          exact tollwaylaw24_DiscountTurns_2 l_0 n_1 cents_2 r1 h2 c3 c4 h7 h8 h9 o10 hl10 h23 h24 h25 r26 h27 r28 h29 c30 c31
      · simp only [Option.some.injEq] at h
        subst h
        exact tollwaylaw24_DiscountTurns_3 l_0 n_1 cents_2 r1 h2 c3 c4 h7 h8 h9 o10 hl10 h23 h24 h25 r26 h27 r28 h29 c30
  · obtain ⟨r34, h35, h⟩ := bind_some h
    simp only [Option.some.injEq] at h
    subst h
    exact tollwaylaw24_DiscountTurns_4 l_0 n_1 cents_2 r1 h2 c3 r34 h35
end Go.Proofs.Ytabjlmlfmafllaa.Av
