import Derived.Test.YtabjlmlfmafllaaAvX
import Derived.Test.YtabjlmlfmafllaaProg
import Derived.Tactics
import Derived.Test.YtabjlmlfmafllaaK1
set_option linter.unusedVariables false
set_option linter.unusedSimpArgs false
set_option maxHeartbeats 4000000
namespace Go.Proofs.Ytabjlmlfmafllaa.Av
open Go Go.Proofs
structure Tapi_Line where
  Text : (List UInt8)
  Cents : Int
def Tapi_Line.enc (x : Tapi_Line) : List AV := [.str x.Text, .int .i64 x.Cents]
noncomputable def tollwayref24_chosen_L40_step (l_0 : (List Tapi_Discount)) (mask_1 : Int) (v7 : Int) (k8 : Nat) (b0 : (List Int)) : Nat → Option (Nat ⊕ (Unit ⊕ Unit)) := fun k9 =>
  if (↑k9 : Int) < (↑b0.length : Int) then
    (l_0[k8]?).bind fun x54 =>
    if x54.Group = [] then
      if InR .i64 ((↑k9 : Int) + 1) then
        some (Sum.inl (k9 + 1))
      else none
    else
      (b0[k9]?).bind fun x58 =>
      if (0 : Int) ≤ x58 then
        (l_0[(Int.toNat x58)]?).bind fun x61 =>
        if x61.Group = x54.Group then
          some (Sum.inr (Sum.inl ()))
        else
          if InR .i64 ((↑k9 : Int) + 1) then
            some (Sum.inl (k9 + 1))
          else none
      else none
  else
    some (Sum.inr (Sum.inr (())))
def tollwayref24_chosen_L40_H (l_0 : (List Tapi_Discount)) (mask_1 : Int) (v7 : Int) (k8 : Nat) (b0 : (List Int)) : Nat → St := fun (s : Nat) => S 56 [(0, .lst (fl Tapi_Discount.enc l_0) l_0.length), (1, .int .i64 mask_1), (6, .vec 0 b0.length 1), (7, .int .i64 v7), (8, .int .i64 (↑k8 : Int)), (9, .int .i64 (↑s : Int))] [(bV (fl e_i64 b0) 3)]
theorem tollwayref24_chosen_L40_0 (l_0 : (List Tapi_Discount)) (mask_1 : Int) (v7 : Int) (k8 : Nat) (b0 : (List Int)) (k9 : Nat) (c53 : (↑k9 : Int) < (↑b0.length : Int)) (x54 : Tapi_Discount) (h55 : l_0[k8]? = some x54) (c56 : x54.Group = []) (h57 : InR .i64 ((↑k9 : Int) + 1)) : Does Try.prog G0 1 (bodyAt Try.prog 27 [1, 1, 1, 0, 1, 0, 0, 1, 0, 0, 0, 1, 0, 0, 1, 0, 0]) (tollwayref24_chosen_L40_H l_0 mask_1 v7 k8 b0 k9) .normal (S 56 [(0, .lst (fl Tapi_Discount.enc l_0) l_0.length), (1, .int .i64 mask_1), (6, .vec 0 b0.length 1), (7, .int .i64 v7), (8, .int .i64 (↑k8 : Int)), (9, .int .i64 ((↑k9 : Int) + 1))] [(bV (fl e_i64 b0) 3)]) :=
  Does.of_viewM 1 400 (cs 3 ((.op none .a) :: (.br true) :: (cs 2 [.op none (.i k8), .op none .c, .op none (.v [.str x54.Group]), .op none .a, .op none .c, .op (some false) .c, .op (some false) .c, .op (some false) .c, .op (some false) .c, .op (some false) .c, .op (some false) .c, .op (some false) .c, .op (some false) .c, .op (some false) .c, .op (some false) .c, .op (some false) .c, .op (some false) .c, .op (some false) .c, .op (some false) .c, .op none (.b false), .br false, .op none .c, .op none .w, .op none .c]))) [0] (ps := [((decide ((↑k9 : Int) < (↑b0.length : Int))) = true), ((↑k8 : Int) = ((k8 : Nat) : Int) ∧ k8 < l_0.length), ((fl Tapi_Discount.enc l_0) ≠ []), (sub (fl Tapi_Discount.enc l_0) ((k8 * 10) + 3) 1 = [.str x54.Group]), ((!(x54.Group == [])) = false), ((!(x54.Group == [])) = false), ((!(x54.Group == [])) = false), ((!(x54.Group == [])) = false), ((!(x54.Group == [])) = false), ((!(x54.Group == [])) = false), ((!(x54.Group == [])) = false), ((!(x54.Group == [])) = false), ((!(x54.Group == [])) = false), ((!(x54.Group == [])) = false), ((!(x54.Group == [])) = false), ((!(x54.Group == [])) = false), ((!(x54.Group == [])) = false), ((!(x54.Group == [])) = false), ((!(x54.Group == [])) = false), (false = false), (IntKind.min .i64 ≤ ((↑k9 : Int) + 1) ∧ ((↑k9 : Int) + 1) ≤ IntKind.max .i64)]) (by kernel_rfl) (by kernel_rfl) ⟨(decide_eq_true c53), ⟨rfl, get_lt h55⟩, (fl_ne (f := Tapi_Discount.enc) (z := 9) (fun _ => rfl) h55), (fl_sub (f := Tapi_Discount.enc) (z := 10) (j := k8) (a := 3) (n := 1) (fun _ => rfl) h55 (by decide) rfl), (not_f (beq_t c56)), (not_f (beq_t c56)), (not_f (beq_t c56)), (not_f (beq_t c56)), (not_f (beq_t c56)), (not_f (beq_t c56)), (not_f (beq_t c56)), (not_f (beq_t c56)), (not_f (beq_t c56)), (not_f (beq_t c56)), (not_f (beq_t c56)), (not_f (beq_t c56)), (not_f (beq_t c56)), (not_f (beq_t c56)), (not_f (beq_t c56)), rfl, ok1 h57⟩
theorem tollwayref24_chosen_L40_1 (l_0 : (List Tapi_Discount)) (mask_1 : Int) (v7 : Int) (k8 : Nat) (b0 : (List Int)) (k9 : Nat) (c53 : (↑k9 : Int) < (↑b0.length : Int)) (x54 : Tapi_Discount) (h55 : l_0[k8]? = some x54) (c56 : ¬ (x54.Group = [])) (x58 : Int) (h59 : b0[k9]? = some x58) (h60 : (0 : Int) ≤ x58) (x61 : Tapi_Discount) (h62 : l_0[(Int.toNat x58)]? = some x61) (c63 : x61.Group = x54.Group) : Does Try.prog G0 1 (bodyAt Try.prog 27 [1, 1, 1, 0, 1, 0, 0, 1, 0, 0, 0, 1, 0, 0, 1, 0, 0]) (tollwayref24_chosen_L40_H l_0 mask_1 v7 k8 b0 k9) .ret (S 56 [(4, .nils), (5, .bool false)] [(bV (fl e_i64 b0) 3)]) :=
  Does.of_viewM 1 400 (cs 3 ((.op none .a) :: (.br true) :: (cs 2 ((.op none (.i k8)) :: (.op none .c) :: (.op none (.v [.str x54.Group])) :: (.op none .a) :: (.op none .c) :: (.op (some true) .c) :: (.op (some true) .c) :: (.op (some true) .c) :: (.op (some true) (.i k9)) :: (.op (some true) (.v [.int .i64 x58])) :: (.op (some true) (.i (Int.toNat x58))) :: (.op (some true) .c) :: (.op (some true) (.v [.str x61.Group])) :: (.op (some true) .c) :: (.op (some true) .c) :: (.op (some true) (.i k8)) :: (.op (some true) .c) :: (.op (some true) (.v [.str x54.Group])) :: (.op (some true) .a) :: (.op none (.b true)) :: (.br true) :: (cs 2 []))))) [0] (ps := [((decide ((↑k9 : Int) < (↑b0.length : Int))) = true), ((↑k8 : Int) = ((k8 : Nat) : Int) ∧ k8 < l_0.length), ((fl Tapi_Discount.enc l_0) ≠ []), (sub (fl Tapi_Discount.enc l_0) ((k8 * 10) + 3) 1 = [.str x54.Group]), ((!(x54.Group == [])) = true), ((!(x54.Group == [])) = true), ((!(x54.Group == [])) = true), ((!(x54.Group == [])) = true), ((↑k9 : Int) = ((k9 : Nat) : Int) ∧ k9 < b0.length), ((!(x54.Group == [])) = true), (sub (fl e_i64 b0) k9 1 = [.int .i64 x58]), ((!(x54.Group == [])) = true), (x58 = (((Int.toNat x58) : Nat) : Int) ∧ (Int.toNat x58) < l_0.length), ((fl Tapi_Discount.enc l_0) ≠ []), ((!(x54.Group == [])) = true), ((!(x54.Group == [])) = true), (sub (fl Tapi_Discount.enc l_0) (((Int.toNat x58) * 10) + 3) 1 = [.str x61.Group]), ((!(x54.Group == [])) = true), ((!(x54.Group == [])) = true), ((!(x54.Group == [])) = true), ((↑k8 : Int) = ((k8 : Nat) : Int) ∧ k8 < l_0.length), ((fl Tapi_Discount.enc l_0) ≠ []), ((!(x54.Group == [])) = true), ((!(x54.Group == [])) = true), (sub (fl Tapi_Discount.enc l_0) ((k8 * 10) + 3) 1 = [.str x54.Group]), ((!(x54.Group == [])) = true), ((!(x54.Group == [])) = true), ((x61.Group == x54.Group) = true)]) (by kernel_rfl) (by kernel_rfl) ⟨(decide_eq_true c53), ⟨rfl, get_lt h55⟩, (fl_ne (f := Tapi_Discount.enc) (z := 9) (fun _ => rfl) h55), (fl_sub (f := Tapi_Discount.enc) (z := 10) (j := k8) (a := 3) (n := 1) (fun _ => rfl) h55 (by decide) rfl), (not_t (beq_f c56)), (not_t (beq_f c56)), (not_t (beq_f c56)), (not_t (beq_f c56)), ⟨rfl, get_lt h59⟩, (not_t (beq_f c56)), (fl_sub1 (f := e_i64) (fun _ => rfl) h59 rfl), (not_t (beq_f c56)), ⟨(Int.toNat_of_nonneg h60).symm, get_lt h62⟩, (fl_ne (f := Tapi_Discount.enc) (z := 9) (fun _ => rfl) h62), (not_t (beq_f c56)), (not_t (beq_f c56)), (fl_sub (f := Tapi_Discount.enc) (z := 10) (j := (Int.toNat x58)) (a := 3) (n := 1) (fun _ => rfl) h62 (by decide) rfl), (not_t (beq_f c56)), (not_t (beq_f c56)), (not_t (beq_f c56)), ⟨rfl, get_lt h55⟩, (fl_ne (f := Tapi_Discount.enc) (z := 9) (fun _ => rfl) h55), (not_t (beq_f c56)), (not_t (beq_f c56)), (fl_sub (f := Tapi_Discount.enc) (z := 10) (j := k8) (a := 3) (n := 1) (fun _ => rfl) h55 (by decide) rfl), (not_t (beq_f c56)), (not_t (beq_f c56)), ok1 (beq_t c63)⟩
theorem tollwayref24_chosen_L40_2 (l_0 : (List Tapi_Discount)) (mask_1 : Int) (v7 : Int) (k8 : Nat) (b0 : (List Int)) (k9 : Nat) (c53 : (↑k9 : Int) < (↑b0.length : Int)) (x54 : Tapi_Discount) (h55 : l_0[k8]? = some x54) (c56 : ¬ (x54.Group = [])) (x58 : Int) (h59 : b0[k9]? = some x58) (h60 : (0 : Int) ≤ x58) (x61 : Tapi_Discount) (h62 : l_0[(Int.toNat x58)]? = some x61) (c63 : ¬ (x61.Group = x54.Group)) (h64 : InR .i64 ((↑k9 : Int) + 1)) : Does Try.prog G0 1 (bodyAt Try.prog 27 [1, 1, 1, 0, 1, 0, 0, 1, 0, 0, 0, 1, 0, 0, 1, 0, 0]) (tollwayref24_chosen_L40_H l_0 mask_1 v7 k8 b0 k9) .normal (S 56 [(0, .lst (fl Tapi_Discount.enc l_0) l_0.length), (1, .int .i64 mask_1), (6, .vec 0 b0.length 1), (7, .int .i64 v7), (8, .int .i64 (↑k8 : Int)), (9, .int .i64 ((↑k9 : Int) + 1))] [(bV (fl e_i64 b0) 3)]) :=
  Does.of_viewM 1 400 (cs 3 ((.op none .a) :: (.br true) :: (cs 2 [.op none (.i k8), .op none .c, .op none (.v [.str x54.Group]), .op none .a, .op none .c, .op (some true) .c, .op (some true) .c, .op (some true) .c, .op (some true) (.i k9), .op (some true) (.v [.int .i64 x58]), .op (some true) (.i (Int.toNat x58)), .op (some true) .c, .op (some true) (.v [.str x61.Group]), .op (some true) .c, .op (some true) .c, .op (some true) (.i k8), .op (some true) .c, .op (some true) (.v [.str x54.Group]), .op (some true) .a, .op none (.b true), .br false, .op none .c, .op none .w, .op none .c]))) [0] (ps := [((decide ((↑k9 : Int) < (↑b0.length : Int))) = true), ((↑k8 : Int) = ((k8 : Nat) : Int) ∧ k8 < l_0.length), ((fl Tapi_Discount.enc l_0) ≠ []), (sub (fl Tapi_Discount.enc l_0) ((k8 * 10) + 3) 1 = [.str x54.Group]), ((!(x54.Group == [])) = true), ((!(x54.Group == [])) = true), ((!(x54.Group == [])) = true), ((!(x54.Group == [])) = true), ((↑k9 : Int) = ((k9 : Nat) : Int) ∧ k9 < b0.length), ((!(x54.Group == [])) = true), (sub (fl e_i64 b0) k9 1 = [.int .i64 x58]), ((!(x54.Group == [])) = true), (x58 = (((Int.toNat x58) : Nat) : Int) ∧ (Int.toNat x58) < l_0.length), ((fl Tapi_Discount.enc l_0) ≠ []), ((!(x54.Group == [])) = true), ((!(x54.Group == [])) = true), (sub (fl Tapi_Discount.enc l_0) (((Int.toNat x58) * 10) + 3) 1 = [.str x61.Group]), ((!(x54.Group == [])) = true), ((!(x54.Group == [])) = true), ((!(x54.Group == [])) = true), ((↑k8 : Int) = ((k8 : Nat) : Int) ∧ k8 < l_0.length), ((fl Tapi_Discount.enc l_0) ≠ []), ((!(x54.Group == [])) = true), ((!(x54.Group == [])) = true), (sub (fl Tapi_Discount.enc l_0) ((k8 * 10) + 3) 1 = [.str x54.Group]), ((!(x54.Group == [])) = true), ((!(x54.Group == [])) = true), ((x61.Group == x54.Group) = false), (IntKind.min .i64 ≤ ((↑k9 : Int) + 1) ∧ ((↑k9 : Int) + 1) ≤ IntKind.max .i64)]) (by kernel_rfl) (by kernel_rfl) ⟨(decide_eq_true c53), ⟨rfl, get_lt h55⟩, (fl_ne (f := Tapi_Discount.enc) (z := 9) (fun _ => rfl) h55), (fl_sub (f := Tapi_Discount.enc) (z := 10) (j := k8) (a := 3) (n := 1) (fun _ => rfl) h55 (by decide) rfl), (not_t (beq_f c56)), (not_t (beq_f c56)), (not_t (beq_f c56)), (not_t (beq_f c56)), ⟨rfl, get_lt h59⟩, (not_t (beq_f c56)), (fl_sub1 (f := e_i64) (fun _ => rfl) h59 rfl), (not_t (beq_f c56)), ⟨(Int.toNat_of_nonneg h60).symm, get_lt h62⟩, (fl_ne (f := Tapi_Discount.enc) (z := 9) (fun _ => rfl) h62), (not_t (beq_f c56)), (not_t (beq_f c56)), (fl_sub (f := Tapi_Discount.enc) (z := 10) (j := (Int.toNat x58)) (a := 3) (n := 1) (fun _ => rfl) h62 (by decide) rfl), (not_t (beq_f c56)), (not_t (beq_f c56)), (not_t (beq_f c56)), ⟨rfl, get_lt h55⟩, (fl_ne (f := Tapi_Discount.enc) (z := 9) (fun _ => rfl) h55), (not_t (beq_f c56)), (not_t (beq_f c56)), (fl_sub (f := Tapi_Discount.enc) (z := 10) (j := k8) (a := 3) (n := 1) (fun _ => rfl) h55 (by decide) rfl), (not_t (beq_f c56)), (not_t (beq_f c56)), (beq_f c63), ok1 h64⟩
theorem tollwayref24_chosen_L40_3 (l_0 : (List Tapi_Discount)) (mask_1 : Int) (v7 : Int) (k8 : Nat) (b0 : (List Int)) (k9 : Nat) (c53 : ¬ ((↑k9 : Int) < (↑b0.length : Int))) : Does Try.prog G0 1 (bodyAt Try.prog 27 [1, 1, 1, 0, 1, 0, 0, 1, 0, 0, 0, 1, 0, 0, 1, 0, 0]) (tollwayref24_chosen_L40_H l_0 mask_1 v7 k8 b0 k9) (.exit 2) (S 56 [(0, .lst (fl Tapi_Discount.enc l_0) l_0.length), (1, .int .i64 mask_1), (6, .vec 0 b0.length 1), (7, .int .i64 v7), (8, .int .i64 (↑k8 : Int))] [(bV (fl e_i64 b0) 3)]) :=
  Does.of_viewM 1 400 (cs 3 [.op none .a, .br false]) [0] (ps := [((decide ((↑k9 : Int) < (↑b0.length : Int))) = false)]) (by kernel_rfl) (by kernel_rfl) (ok1 (decide_eq_false c53))
def tollwayref24_chosen_L40_X (l_0 : (List Tapi_Discount)) (mask_1 : Int) (v7 : Int) (k8 : Nat) (b0 : (List Int)) : (Unit ⊕ Unit) → AEx := fun q => match q with | Sum.inl o => .ret | Sum.inr (o) => (.exit 2)
def tollwayref24_chosen_L40_E (l_0 : (List Tapi_Discount)) (mask_1 : Int) (v7 : Int) (k8 : Nat) (b0 : (List Int)) : (Unit ⊕ Unit) → St := fun q => match q with | Sum.inl o => S 56 [(4, .nils), (5, .bool false)] [(bV (fl e_i64 b0) 3)] | Sum.inr (o) => S 56 [(0, .lst (fl Tapi_Discount.enc l_0) l_0.length), (1, .int .i64 mask_1), (6, .vec 0 b0.length 1), (7, .int .i64 v7), (8, .int .i64 (↑k8 : Int))] [(bV (fl e_i64 b0) 3)]
theorem tollwayref24_chosen_L40_does (l_0 : (List Tapi_Discount)) (mask_1 : Int) (v7 : Int) (k8 : Nat) (b0 : (List Int)) {s : Nat} {r : Unit ⊕ Unit} (h : lp (tollwayref24_chosen_L40_step l_0 mask_1 v7 k8 b0) s = some r) : Does Try.prog G0 1 (.loop (bodyAt Try.prog 27 [1, 1, 1, 0, 1, 0, 0, 1, 0, 0, 0, 1, 0, 0, 1, 0, 0])) (tollwayref24_chosen_L40_H l_0 mask_1 v7 k8 b0 s) (tollwayref24_chosen_L40_X l_0 mask_1 v7 k8 b0 r) (tollwayref24_chosen_L40_E l_0 mask_1 v7 k8 b0 r) := by
  refine Does.lp (H := tollwayref24_chosen_L40_H l_0 mask_1 v7 k8 b0) (X := tollwayref24_chosen_L40_X l_0 mask_1 v7 k8 b0) (E := tollwayref24_chosen_L40_E l_0 mask_1 v7 k8 b0) (fun s s2 h => ?_) (fun s r h => ?_) h
  · revert h; revert s; intro k9 h
    unfold tollwayref24_chosen_L40_step at h
    try dsimp only at h
    rcases ite_some h with ⟨c53, h⟩ | ⟨c53, h⟩
    · obtain ⟨x54, h55, h⟩ := bind_some h
      rcases ite_some h with ⟨c56, h⟩ | ⟨c56, h⟩
      · obtain ⟨h57, h⟩ := guard_some h
        simp only [Option.some.injEq, Sum.inl.injEq] at h
        subst h
        have hq := tollwayref24_chosen_L40_0 l_0 mask_1 v7 k8 b0 k9 c53 x54 h55 c56 h57
        first | exact hq | exact Eq.mp (by simp only [tollwayref24_chosen_L40_H, List.length_set] <;> rfl) hq
      · obtain ⟨x58, h59, h⟩ := bind_some h
        obtain ⟨h60, h⟩ := guard_some h
        obtain ⟨x61, h62, h⟩ := bind_some h
        rcases ite_some h with ⟨c63, h⟩ | ⟨c63, h⟩
        · simp at h
        · obtain ⟨h64, h⟩ := guard_some h
          simp only [Option.some.injEq, Sum.inl.injEq] at h
          subst h
          have hq := tollwayref24_chosen_L40_2 l_0 mask_1 v7 k8 b0 k9 c53 x54 h55 c56 x58 h59 h60 x61 h62 c63 h64
          first | exact hq | exact Eq.mp (by simp only [tollwayref24_chosen_L40_H, List.length_set] <;> rfl) hq
    · simp at h
  · revert h; revert s; intro k9 h
    unfold tollwayref24_chosen_L40_step at h
    try dsimp only at h
    rcases ite_some h with ⟨c53, h⟩ | ⟨c53, h⟩
    · obtain ⟨x54, h55, h⟩ := bind_some h
      rcases ite_some h with ⟨c56, h⟩ | ⟨c56, h⟩
      · obtain ⟨h57, h⟩ := guard_some h
        simp at h
      · obtain ⟨x58, h59, h⟩ := bind_some h
        obtain ⟨h60, h⟩ := guard_some h
        obtain ⟨x61, h62, h⟩ := bind_some h
        rcases ite_some h with ⟨c63, h⟩ | ⟨c63, h⟩
        · simp only [Option.some.injEq, Sum.inr.injEq] at h
          subst h
          exact ⟨tollwayref24_chosen_L40_1 l_0 mask_1 v7 k8 b0 k9 c53 x54 h55 c56 x58 h59 h60 x61 h62 c63, by intro q; cases q⟩
        · obtain ⟨h64, h⟩ := guard_some h
          simp at h
    · simp only [Option.some.injEq, Sum.inr.injEq] at h
      subst h
      exact ⟨tollwayref24_chosen_L40_3 l_0 mask_1 v7 k8 b0 k9 c53, by intro q; cases q⟩
noncomputable def tollwayref24_chosen_L1_step (l_0 : (List Tapi_Discount)) (mask_1 : Int) : (Int × Nat × (List Int)) → Option ((Int × Nat × (List Int)) ⊕ (Unit ⊕ (List Int)))
  | (v7, k8, b0) =>
    if (↑k8 : Int) < (↑l_0.length : Int) then
      if v7 ≠ (0 : Int) then
        if InR .i64 (Int.tdiv mask_1 v7) then
          if (Int.tmod (Int.tdiv mask_1 v7) 2) = (1 : Int) then
            (lp (tollwayref24_chosen_L40_step l_0 mask_1 v7 k8 b0) (0 : Nat)).bind fun qq => match qq with
            | Sum.inl o40 =>
              some (Sum.inr (Sum.inl ()))
            | Sum.inr (o40) =>
              if b0.length + 1 ≤ 4294967296 then
                if InR .i64 (v7 * 2) then
                  if InR .i64 ((↑k8 : Int) + 1) then
                    some (Sum.inl ((v7 * 2), (k8 + 1), (b0 ++ [(↑k8 : Int)])))
                  else none
                else none
              else none
          else
            if InR .i64 (v7 * 2) then
              if InR .i64 ((↑k8 : Int) + 1) then
                some (Sum.inl ((v7 * 2), (k8 + 1), b0))
              else none
            else none
        else none
      else none
    else
      some (Sum.inr (Sum.inr (b0)))
def tollwayref24_chosen_L1_H (l_0 : (List Tapi_Discount)) (mask_1 : Int) : (Int × Nat × (List Int)) → St := fun (s : (Int × Nat × (List Int))) => S 56 [(0, .lst (fl Tapi_Discount.enc l_0) l_0.length), (1, .int .i64 mask_1), (6, .vec 0 s.2.2.length 1), (7, .int .i64 s.1), (8, .int .i64 (↑s.2.1 : Int))] [(bV (fl e_i64 s.2.2) 3)]
theorem tollwayref24_chosen_L1_0 (l_0 : (List Tapi_Discount)) (mask_1 : Int) (v7 : Int) (k8 : Nat) (b0 : (List Int)) (c36 : (↑k8 : Int) < (↑l_0.length : Int)) (h37 : v7 ≠ (0 : Int)) (h38 : InR .i64 (Int.tdiv mask_1 v7)) (c39 : (Int.tmod (Int.tdiv mask_1 v7) 2) = (1 : Int)) (o40 : Unit) (hl40 : lp (tollwayref24_chosen_L40_step l_0 mask_1 v7 k8 b0) (0 : Nat) = some (Sum.inl o40)) : Does Try.prog G0 0 (bodyAt Try.prog 27 [1, 1, 1, 0, 1, 0, 0]) (tollwayref24_chosen_L1_H l_0 mask_1 (v7, k8, b0)) .ret (S 56 [(4, .nils), (5, .bool false)] []) :=
  Does.of_viewM 0 400 (cs 3 ((.op none .a) :: (.br true) :: (cs 2 [.op none .w, .op none .a, .op none .a, .br true, .op none .c, .fcut 1 .ret [(4, .nils), (5, .bool false)] [(bV (fl e_i64 b0) 3)] [0] [(0, .lst (fl Tapi_Discount.enc l_0) l_0.length), (1, .int .i64 mask_1), (6, .vec 0 b0.length 1), (7, .int .i64 v7), (8, .int .i64 (↑k8 : Int)), (9, .int .i64 (↑(0 : Nat) : Int))] [(bV (fl e_i64 b0) 3)]]))) [] (ps := [((decide ((↑k8 : Int) < (↑l_0.length : Int))) = true), (v7 ≠ (0 : Int)), (IntKind.min .i64 ≤ (Int.tdiv mask_1 v7) ∧ (Int.tdiv mask_1 v7) ≤ IntKind.max .i64), (2 ≠ (0 : Int)), (((Int.tmod (Int.tdiv mask_1 v7) 2) == (1 : Int)) = true), ((.lst (fl Tapi_Discount.enc l_0) l_0.length : AV) = .lst (fl Tapi_Discount.enc l_0) l_0.length), ((.int .i64 mask_1 : AV) = .int .i64 mask_1), ((.vec 0 b0.length 1 : AV) = .vec 0 b0.length 1), ((.int .i64 v7 : AV) = .int .i64 v7), ((.int .i64 (↑k8 : Int) : AV) = .int .i64 (↑k8 : Int)), ((.int .i64 0 : AV) = .int .i64 (↑(0 : Nat) : Int)), (((bV (fl e_i64 b0) 3) : Blk) = renB [0] (bV (fl e_i64 b0) 3)), (Does Try.prog G0 1 (.loop (bodyAt Try.prog 27 [1, 1, 1, 0, 1, 0, 0, 1, 0, 0, 0, 1, 0, 0, 1, 0, 0])) (S 56 [(0, .lst (fl Tapi_Discount.enc l_0) l_0.length), (1, .int .i64 mask_1), (6, .vec 0 b0.length 1), (7, .int .i64 v7), (8, .int .i64 (↑k8 : Int)), (9, .int .i64 (↑(0 : Nat) : Int))] [(bV (fl e_i64 b0) 3)]) .ret (S 56 [(4, .nils), (5, .bool false)] [(bV (fl e_i64 b0) 3)]))]) (by kernel_rfl) (by kernel_rfl) ⟨(decide_eq_true c36), h37, h38, (by decide), (beq_t c39), rfl, rfl, rfl, rfl, rfl, rfl, rfl, ok1 (tollwayref24_chosen_L40_does l_0 mask_1 v7 k8 b0 (s := (0 : Nat)) (r := Sum.inl o40) hl40)⟩
theorem tollwayref24_chosen_L1_1 (l_0 : (List Tapi_Discount)) (mask_1 : Int) (v7 : Int) (k8 : Nat) (b0 : (List Int)) (c36 : (↑k8 : Int) < (↑l_0.length : Int)) (h37 : v7 ≠ (0 : Int)) (h38 : InR .i64 (Int.tdiv mask_1 v7)) (c39 : (Int.tmod (Int.tdiv mask_1 v7) 2) = (1 : Int)) (o40 : Unit) (hl40 : lp (tollwayref24_chosen_L40_step l_0 mask_1 v7 k8 b0) (0 : Nat) = some (Sum.inr (o40))) (h65 : b0.length + 1 ≤ 4294967296) (h66 : InR .i64 (v7 * 2)) (h67 : InR .i64 ((↑k8 : Int) + 1)) : Does Try.prog G0 0 (bodyAt Try.prog 27 [1, 1, 1, 0, 1, 0, 0]) (tollwayref24_chosen_L1_H l_0 mask_1 (v7, k8, b0)) .normal (S 56 [(0, .lst (fl Tapi_Discount.enc l_0) l_0.length), (1, .int .i64 mask_1), (6, .vec 0 ((b0 ++ [(↑k8 : Int)]).length) 1), (7, .int .i64 (v7 * 2)), (8, .int .i64 ((↑k8 : Int) + 1))] [(bV (fl e_i64 (b0 ++ [(↑k8 : Int)])) 3)]) :=
  Does.of_viewM 0 400 (cs 3 ((.op none .a) :: (.br true) :: (cs 2 ((.op none .w) :: (.op none .a) :: (.op none .a) :: (.br true) :: (.op none .c) :: (.fcut 1 (.exit 2) [(0, .lst (fl Tapi_Discount.enc l_0) l_0.length), (1, .int .i64 mask_1), (6, .vec 0 b0.length 1), (7, .int .i64 v7), (8, .int .i64 (↑k8 : Int))] [(bV (fl e_i64 b0) 3)] [0] [(0, .lst (fl Tapi_Discount.enc l_0) l_0.length), (1, .int .i64 mask_1), (6, .vec 0 b0.length 1), (7, .int .i64 v7), (8, .int .i64 (↑k8 : Int)), (9, .int .i64 (↑(0 : Nat) : Int))] [(bV (fl e_i64 b0) 3)]) :: (cs 3 ((.op none (.ap 4)) :: (.tr (.eqc 3 (fl e_i64 (b0 ++ [(↑k8 : Int)])))) :: (.tr (.eqt (.t 52) (.vec 3 ((b0 ++ [(↑k8 : Int)]).length) 1))) :: (cs 2 ((.op none .w) :: (cs 2 [.op none .w, .op none .c]))))))))) [3] (ps := [((decide ((↑k8 : Int) < (↑l_0.length : Int))) = true), (v7 ≠ (0 : Int)), (IntKind.min .i64 ≤ (Int.tdiv mask_1 v7) ∧ (Int.tdiv mask_1 v7) ≤ IntKind.max .i64), (2 ≠ (0 : Int)), (((Int.tmod (Int.tdiv mask_1 v7) 2) == (1 : Int)) = true), ((.lst (fl Tapi_Discount.enc l_0) l_0.length : AV) = .lst (fl Tapi_Discount.enc l_0) l_0.length), ((.int .i64 mask_1 : AV) = .int .i64 mask_1), ((.vec 0 b0.length 1 : AV) = .vec 0 b0.length 1), ((.int .i64 v7 : AV) = .int .i64 v7), ((.int .i64 (↑k8 : Int) : AV) = .int .i64 (↑k8 : Int)), ((.int .i64 0 : AV) = .int .i64 (↑(0 : Nat) : Int)), (((bV (fl e_i64 b0) 3) : Blk) = renB [0] (bV (fl e_i64 b0) 3)), (Does Try.prog G0 1 (.loop (bodyAt Try.prog 27 [1, 1, 1, 0, 1, 0, 0, 1, 0, 0, 0, 1, 0, 0, 1, 0, 0])) (S 56 [(0, .lst (fl Tapi_Discount.enc l_0) l_0.length), (1, .int .i64 mask_1), (6, .vec 0 b0.length 1), (7, .int .i64 v7), (8, .int .i64 (↑k8 : Int)), (9, .int .i64 (↑(0 : Nat) : Int))] [(bV (fl e_i64 b0) 3)]) (.exit 2) (S 56 [(0, .lst (fl Tapi_Discount.enc l_0) l_0.length), (1, .int .i64 mask_1), (6, .vec 0 b0.length 1), (7, .int .i64 v7), (8, .int .i64 (↑k8 : Int))] [(bV (fl e_i64 b0) 3)])), (0 + 1 ≤ List.length ([.int .i64 (↑k8 : Int)] : List AV)), (List.length ((fl e_i64 b0) : List AV) = b0.length), (List.all ([.int .i64 (↑k8 : Int)] : List AV) AV.one = true), (b0.length + 1 ≤ 4294967296), ((fl e_i64 b0) ++ [.int .i64 (↑k8 : Int)] = (fl e_i64 (b0 ++ [(↑k8 : Int)]))), ((.vec 3 (b0.length + 1) 1 : AV) = .vec 3 ((b0 ++ [(↑k8 : Int)]).length) 1), (IntKind.min .i64 ≤ (v7 * 2) ∧ (v7 * 2) ≤ IntKind.max .i64), (IntKind.min .i64 ≤ ((↑k8 : Int) + 1) ∧ ((↑k8 : Int) + 1) ≤ IntKind.max .i64)]) (by kernel_rfl) (by kernel_rfl) ⟨(decide_eq_true c36), h37, h38, (by decide), (beq_t c39), rfl, rfl, rfl, rfl, rfl, rfl, rfl, (tollwayref24_chosen_L40_does l_0 mask_1 v7 k8 b0 (s := (0 : Nat)) (r := Sum.inr (o40)) hl40), (Nat.le_of_ble_eq_true rfl), (fl_length1 (f := e_i64) (fun _ => rfl) _), rfl, h65, (fl_snoc rfl), (by simp <;> omega), h66, ok1 h67⟩
theorem tollwayref24_chosen_L1_2 (l_0 : (List Tapi_Discount)) (mask_1 : Int) (v7 : Int) (k8 : Nat) (b0 : (List Int)) (c36 : (↑k8 : Int) < (↑l_0.length : Int)) (h37 : v7 ≠ (0 : Int)) (h38 : InR .i64 (Int.tdiv mask_1 v7)) (c39 : ¬ ((Int.tmod (Int.tdiv mask_1 v7) 2) = (1 : Int))) (h68 : InR .i64 (v7 * 2)) (h69 : InR .i64 ((↑k8 : Int) + 1)) : Does Try.prog G0 0 (bodyAt Try.prog 27 [1, 1, 1, 0, 1, 0, 0]) (tollwayref24_chosen_L1_H l_0 mask_1 (v7, k8, b0)) .normal (S 56 [(0, .lst (fl Tapi_Discount.enc l_0) l_0.length), (1, .int .i64 mask_1), (6, .vec 0 b0.length 1), (7, .int .i64 (v7 * 2)), (8, .int .i64 ((↑k8 : Int) + 1))] [(bV (fl e_i64 b0) 3)]) :=
  Does.of_viewM 0 400 (cs 3 ((.op none .a) :: (.br true) :: (cs 2 ((.op none .w) :: (.op none .a) :: (.op none .a) :: (.br false) :: (.op none .c) :: (.op none .w) :: (cs 2 [.op none .w, .op none .c]))))) [0] (ps := [((decide ((↑k8 : Int) < (↑l_0.length : Int))) = true), (v7 ≠ (0 : Int)), (IntKind.min .i64 ≤ (Int.tdiv mask_1 v7) ∧ (Int.tdiv mask_1 v7) ≤ IntKind.max .i64), (2 ≠ (0 : Int)), (((Int.tmod (Int.tdiv mask_1 v7) 2) == (1 : Int)) = false), (IntKind.min .i64 ≤ (v7 * 2) ∧ (v7 * 2) ≤ IntKind.max .i64), (IntKind.min .i64 ≤ ((↑k8 : Int) + 1) ∧ ((↑k8 : Int) + 1) ≤ IntKind.max .i64)]) (by kernel_rfl) (by kernel_rfl) ⟨(decide_eq_true c36), h37, h38, (by decide), (beq_f c39), h68, ok1 h69⟩
theorem tollwayref24_chosen_L1_3 (l_0 : (List Tapi_Discount)) (mask_1 : Int) (v7 : Int) (k8 : Nat) (b0 : (List Int)) (c36 : ¬ ((↑k8 : Int) < (↑l_0.length : Int))) : Does Try.prog G0 0 (bodyAt Try.prog 27 [1, 1, 1, 0, 1, 0, 0]) (tollwayref24_chosen_L1_H l_0 mask_1 (v7, k8, b0)) (.exit 0) (S 56 [(6, .vec 0 b0.length 1)] [(bV (fl e_i64 b0) 3)]) :=
  Does.of_viewM 0 400 (cs 3 [.op none .a, .br false]) [0] (ps := [((decide ((↑k8 : Int) < (↑l_0.length : Int))) = false)]) (by kernel_rfl) (by kernel_rfl) (ok1 (decide_eq_false c36))
def tollwayref24_chosen_L1_X (l_0 : (List Tapi_Discount)) (mask_1 : Int) : (Unit ⊕ (List Int)) → AEx := fun q => match q with | Sum.inl o => .ret | Sum.inr (o) => (.exit 0)
def tollwayref24_chosen_L1_E (l_0 : (List Tapi_Discount)) (mask_1 : Int) : (Unit ⊕ (List Int)) → St := fun q => match q with | Sum.inl o => S 56 [(4, .nils), (5, .bool false)] [] | Sum.inr (o) => S 56 [(6, .vec 0 o.length 1)] [(bV (fl e_i64 o) 3)]
theorem tollwayref24_chosen_L1_does (l_0 : (List Tapi_Discount)) (mask_1 : Int) {s : (Int × Nat × (List Int))} {r : Unit ⊕ (List Int)} (h : lp (tollwayref24_chosen_L1_step l_0 mask_1) s = some r) : Does Try.prog G0 0 (.loop (bodyAt Try.prog 27 [1, 1, 1, 0, 1, 0, 0])) (tollwayref24_chosen_L1_H l_0 mask_1 s) (tollwayref24_chosen_L1_X l_0 mask_1 r) (tollwayref24_chosen_L1_E l_0 mask_1 r) := by
  refine Does.lp (H := tollwayref24_chosen_L1_H l_0 mask_1) (X := tollwayref24_chosen_L1_X l_0 mask_1) (E := tollwayref24_chosen_L1_E l_0 mask_1) (fun s s2 h => ?_) (fun s r h => ?_) h
  · obtain ⟨v7, k8, b0⟩ := s
    unfold tollwayref24_chosen_L1_step at h
    try dsimp only at h
    rcases ite_some h with ⟨c36, h⟩ | ⟨c36, h⟩
    · obtain ⟨h37, h⟩ := guard_some h
      obtain ⟨h38, h⟩ := guard_some h
      rcases ite_some h with ⟨c39, h⟩ | ⟨c39, h⟩
      · obtain ⟨qq, hl40, h⟩ := bind_some h
        rcases qq with o40 | o40
        · dsimp only at h
          simp at h
        · dsimp only at h
          obtain ⟨h65, h⟩ := guard_some h
          obtain ⟨h66, h⟩ := guard_some h
          obtain ⟨h67, h⟩ := guard_some h
          simp only [Option.some.injEq, Sum.inl.injEq] at h
          subst h
          have hq := tollwayref24_chosen_L1_1 l_0 mask_1 v7 k8 b0 c36 h37 h38 c39 o40 hl40 h65 h66 h67
          first | exact hq | exact Eq.mp (by simp only [tollwayref24_chosen_L1_H, List.length_set] <;> rfl) hq
      · obtain ⟨h68, h⟩ := guard_some h
        obtain ⟨h69, h⟩ := guard_some h
        simp only [Option.some.injEq, Sum.inl.injEq] at h
        subst h
        have hq := tollwayref24_chosen_L1_2 l_0 mask_1 v7 k8 b0 c36 h37 h38 c39 h68 h69
        first | exact hq | exact Eq.mp (by simp only [tollwayref24_chosen_L1_H, List.length_set] <;> rfl) hq
    · simp at h
  · obtain ⟨v7, k8, b0⟩ := s
    unfold tollwayref24_chosen_L1_step at h
    try dsimp only at h
    rcases ite_some h with ⟨c36, h⟩ | ⟨c36, h⟩
    · obtain ⟨h37, h⟩ := guard_some h
      obtain ⟨h38, h⟩ := guard_some h
      rcases ite_some h with ⟨c39, h⟩ | ⟨c39, h⟩
      · obtain ⟨qq, hl40, h⟩ := bind_some h
        rcases qq with o40 | o40
        · dsimp only at h
          simp only [Option.some.injEq, Sum.inr.injEq] at h
          subst h
          exact ⟨tollwayref24_chosen_L1_0 l_0 mask_1 v7 k8 b0 c36 h37 h38 c39 o40 hl40, by intro q; cases q⟩
        · dsimp only at h
          obtain ⟨h65, h⟩ := guard_some h
          obtain ⟨h66, h⟩ := guard_some h
          obtain ⟨h67, h⟩ := guard_some h
          simp at h
      · obtain ⟨h68, h⟩ := guard_some h
        obtain ⟨h69, h⟩ := guard_some h
        simp at h
    · simp only [Option.some.injEq, Sum.inr.injEq] at h
      subst h
      exact ⟨tollwayref24_chosen_L1_3 l_0 mask_1 v7 k8 b0 c36, by intro q; cases q⟩
noncomputable def tollwayref24_chosen (l_0 : (List Tapi_Discount)) (mask_1 : Int) : Option ((List Int) × Bool) :=
  (lp (tollwayref24_chosen_L1_step l_0 mask_1) ((1 : Int), (0 : Nat), ([] : (List Int)))).bind fun qq => match qq with
  | Sum.inl o1 =>
    some (([] : List Int), false)
  | Sum.inr (o1) =>
    some (o1, true)
def tollwayref24_chosen_h1  : List CH := (cs 5 [.tr (.vec (.t 6) 1 3)])
def tollwayref24_chosen_p2 (l_0 : (List Tapi_Discount)) (mask_1 : Int) : List Prop := [((.lst (fl Tapi_Discount.enc l_0) l_0.length : AV) = .lst (fl Tapi_Discount.enc l_0) l_0.length), ((.int .i64 mask_1 : AV) = .int .i64 mask_1), ((.vec 0 0 1 : AV) = .vec 0 (([] : (List Int)).length) 1), ((.int .i64 1 : AV) = .int .i64 (1 : Int)), ((.int .i64 0 : AV) = .int .i64 (↑(0 : Nat) : Int)), (((bV [] 3) : Blk) = renB [0] (bV (fl e_i64 ([] : (List Int))) 3))]
theorem tollwayref24_chosen_p2q (l_0 : (List Tapi_Discount)) (mask_1 : Int) : allOk (tollwayref24_chosen_p2 l_0 mask_1) := ⟨rfl, rfl, (by first | rfl | simp only [List.length_replicate, List.length_set]), rfl, rfl, ok1 rfl⟩
theorem tollwayref24_chosen_0 (l_0 : (List Tapi_Discount)) (mask_1 : Int) (o1 : Unit) (hl1 : lp (tollwayref24_chosen_L1_step l_0 mask_1) ((1 : Int), (0 : Nat), ([] : (List Int))) = some (Sum.inl o1)) : Ret Try.prog G0 27 [.lst (fl Tapi_Discount.enc l_0) l_0.length, .int .i64 mask_1] (.tup [.vec 0 (([] : List Int).length) 1, .bool false]) [(bV (fl e_i64 ([] : List Int)) 3)] :=
  Ret.of_view 400 ((tollwayref24_chosen_h1) ++ [.fcut 0 .ret [(4, .nils), (5, .bool false)] [] [0] [(0, .lst (fl Tapi_Discount.enc l_0) l_0.length), (1, .int .i64 mask_1), (6, .vec 0 (([] : (List Int)).length) 1), (7, .int .i64 (1 : Int)), (8, .int .i64 (↑(0 : Nat) : Int))] [(bV (fl e_i64 ([] : (List Int))) 3)], .tr (.vec (.t 4) 1 3), .tr (.eqc 1 (fl e_i64 ([] : List Int))), .tr (.eqt (.t 4) (.vec 1 (([] : List Int).length) 1))]) [1] (ps := ((tollwayref24_chosen_p2 l_0 mask_1) ++ [(Does Try.prog G0 0 (.loop (bodyAt Try.prog 27 [1, 1, 1, 0, 1, 0, 0])) (S 56 [(0, .lst (fl Tapi_Discount.enc l_0) l_0.length), (1, .int .i64 mask_1), (6, .vec 0 (([] : (List Int)).length) 1), (7, .int .i64 (1 : Int)), (8, .int .i64 (↑(0 : Nat) : Int))] [(bV (fl e_i64 ([] : (List Int))) 3)]) .ret (S 56 [(4, .nils), (5, .bool false)] [])), ([] = (fl e_i64 ([] : List Int))), ((.vec 1 0 1 : AV) = .vec 1 (([] : List Int).length) 1)])) (by kernel_rfl) (by kernel_rfl) (allOk_append.2 ⟨(tollwayref24_chosen_p2q l_0 mask_1), ⟨(tollwayref24_chosen_L1_does l_0 mask_1 (s := ((1 : Int), (0 : Nat), ([] : (List Int)))) (r := Sum.inl o1) hl1), rfl, ok1 rfl⟩⟩)
theorem tollwayref24_chosen_1 (l_0 : (List Tapi_Discount)) (mask_1 : Int) (o1 : (List Int)) (hl1 : lp (tollwayref24_chosen_L1_step l_0 mask_1) ((1 : Int), (0 : Nat), ([] : (List Int))) = some (Sum.inr (o1))) : Ret Try.prog G0 27 [.lst (fl Tapi_Discount.enc l_0) l_0.length, .int .i64 mask_1] (.tup [.vec 0 o1.length 1, .bool true]) [(bV (fl e_i64 o1) 3)] :=
  Ret.of_view 400 ((tollwayref24_chosen_h1) ++ ((.fcut 0 (.exit 0) [(6, .vec 0 o1.length 1)] [(bV (fl e_i64 o1) 3)] [0] [(0, .lst (fl Tapi_Discount.enc l_0) l_0.length), (1, .int .i64 mask_1), (6, .vec 0 (([] : (List Int)).length) 1), (7, .int .i64 (1 : Int)), (8, .int .i64 (↑(0 : Nat) : Int))] [(bV (fl e_i64 ([] : (List Int))) 3)]) :: (cs 3 []))) [1] (ps := ((tollwayref24_chosen_p2 l_0 mask_1) ++ [(Does Try.prog G0 0 (.loop (bodyAt Try.prog 27 [1, 1, 1, 0, 1, 0, 0])) (S 56 [(0, .lst (fl Tapi_Discount.enc l_0) l_0.length), (1, .int .i64 mask_1), (6, .vec 0 (([] : (List Int)).length) 1), (7, .int .i64 (1 : Int)), (8, .int .i64 (↑(0 : Nat) : Int))] [(bV (fl e_i64 ([] : (List Int))) 3)]) (.exit 0) (S 56 [(6, .vec 0 o1.length 1)] [(bV (fl e_i64 o1) 3)]))])) (by kernel_rfl) (by kernel_rfl) (allOk_append.2 ⟨(tollwayref24_chosen_p2q l_0 mask_1), (ok1 (tollwayref24_chosen_L1_does l_0 mask_1 (s := ((1 : Int), (0 : Nat), ([] : (List Int)))) (r := Sum.inr (o1)) hl1))⟩)
theorem tollwayref24_chosen_ret (l_0 : (List Tapi_Discount)) (mask_1 : Int) (r : ((List Int) × Bool)) (h : tollwayref24_chosen l_0 mask_1 = some r) : Ret Try.prog G0 27 [.lst (fl Tapi_Discount.enc l_0) l_0.length, .int .i64 mask_1] (.tup [.vec 0 r.1.length 1, .bool r.2]) [(bV (fl e_i64 r.1) 3)] := by
  unfold tollwayref24_chosen at h
  obtain ⟨qq, hl1, h⟩ := bind_some h
  rcases qq with o1 | o1
  · dsimp only at h
    simp only [Option.some.injEq] at h
    subst h
    exact tollwayref24_chosen_0 l_0 mask_1 o1 hl1
  · dsimp only at h
    simp only [Option.some.injEq] at h
    subst h
    exact tollwayref24_chosen_1 l_0 mask_1 o1 hl1
noncomputable def tollwayref24_Reduction_L1_step (l_0 : (List Tapi_Discount)) (c_1 : (List Int)) (cents_2 : Int) : (Int × Nat) → Option ((Int × Nat) ⊕ Int)
  | (v7, k8) =>
    if (↑k8 : Int) < (↑c_1.length : Int) then
      (c_1[k8]?).bind fun x13 =>
      if (0 : Int) ≤ x13 then
        (l_0[(Int.toNat x13)]?).bind fun x16 =>
        (tollwayref24_Amount x16 cents_2).bind fun r18 =>
        if InR .i64 (v7 + r18) then
          if InR .i64 ((↑k8 : Int) + 1) then
            some (Sum.inl ((v7 + r18), (k8 + 1)))
          else none
        else none
      else none
    else
      some (Sum.inr v7)
def tollwayref24_Reduction_L1_H (l_0 : (List Tapi_Discount)) (c_1 : (List Int)) (cents_2 : Int) : (Int × Nat) → St := fun (s : (Int × Nat)) => S 31 [(0, .lst (fl Tapi_Discount.enc l_0) l_0.length), (1, .lst (fl e_i64 c_1) c_1.length), (2, .int .i64 cents_2), (7, .int .i64 s.1), (8, .int .i64 (↑s.2 : Int))] []
theorem tollwayref24_Reduction_L1_0 (l_0 : (List Tapi_Discount)) (c_1 : (List Int)) (cents_2 : Int) (v7 : Int) (k8 : Nat) (c12 : (↑k8 : Int) < (↑c_1.length : Int)) (x13 : Int) (h14 : c_1[k8]? = some x13) (h15 : (0 : Int) ≤ x13) (x16 : Tapi_Discount) (h17 : l_0[(Int.toNat x13)]? = some x16) (r18 : Int) (h19 : tollwayref24_Amount x16 cents_2 = some r18) (h20 : InR .i64 (v7 + r18)) (h21 : InR .i64 ((↑k8 : Int) + 1)) : Does Try.prog G0 0 (bodyAt Try.prog 28 [1, 1, 0, 1, 0, 0]) (tollwayref24_Reduction_L1_H l_0 c_1 cents_2 (v7, k8)) .normal (S 31 [(0, .lst (fl Tapi_Discount.enc l_0) l_0.length), (1, .lst (fl e_i64 c_1) c_1.length), (2, .int .i64 cents_2), (7, .int .i64 (v7 + r18)), (8, .int .i64 ((↑k8 : Int) + 1))] []) :=
  Does.of_viewM 0 400 (cs 3 ((.op none .a) :: (.br true) :: (cs 4 ((.op none (.i k8)) :: (.op none (.v [.int .i64 x13])) :: (.op none (.i (Int.toNat x13))) :: (.op none (.v [.str x16.Name, .int .i64 x16.Kind, .int .i64 x16.Amount, .str x16.Group, .str x16.System, .int .i64 x16.Class, .int .i64 x16.Window.Days, .int .i64 x16.Window.From, .int .i64 x16.Window.To, .int .i64 x16.Least])) :: (.op none .c) :: (.ret none [.agg (Tapi_Discount.enc x16), .int .i64 cents_2] (.int .i64 r18) []) :: (.op none .w) :: (cs 2 [.op none .w, .op none .c]))))) [] (ps := [((decide ((↑k8 : Int) < (↑c_1.length : Int))) = true), ((↑k8 : Int) = ((k8 : Nat) : Int) ∧ k8 < c_1.length), ((fl e_i64 c_1) ≠ []), (sub (fl e_i64 c_1) k8 1 = [.int .i64 x13]), (x13 = (((Int.toNat x13) : Nat) : Int) ∧ (Int.toNat x13) < l_0.length), ((fl Tapi_Discount.enc l_0) ≠ []), (sub (fl Tapi_Discount.enc l_0) ((Int.toNat x13) * 10) 10 = [.str x16.Name, .int .i64 x16.Kind, .int .i64 x16.Amount, .str x16.Group, .str x16.System, .int .i64 x16.Class, .int .i64 x16.Window.Days, .int .i64 x16.Window.From, .int .i64 x16.Window.To, .int .i64 x16.Least]), ((.agg (Tapi_Discount.enc x16) : AV) = .agg (Tapi_Discount.enc x16)), ((.int .i64 cents_2 : AV) = .int .i64 cents_2), (Ret Try.prog G0 30 [.agg (Tapi_Discount.enc x16), .int .i64 cents_2] (.int .i64 r18) []), (IntKind.min .i64 ≤ (v7 + r18) ∧ (v7 + r18) ≤ IntKind.max .i64), (IntKind.min .i64 ≤ ((↑k8 : Int) + 1) ∧ ((↑k8 : Int) + 1) ≤ IntKind.max .i64)]) (by kernel_rfl) (by kernel_rfl) ⟨(decide_eq_true c12), ⟨rfl, get_lt h14⟩, (fl_ne (f := e_i64) (z := 0) (fun _ => rfl) h14), (fl_sub1 (f := e_i64) (fun _ => rfl) h14 rfl), ⟨(Int.toNat_of_nonneg h15).symm, get_lt h17⟩, (fl_ne (f := Tapi_Discount.enc) (z := 9) (fun _ => rfl) h17), (fl_sub0 (f := Tapi_Discount.enc) (z := 10) (j := (Int.toNat x13)) (fun _ => rfl) h17 rfl), rfl, rfl, (tollwayref24_Amount_ret x16 cents_2 r18 h19), h20, ok1 h21⟩
theorem tollwayref24_Reduction_L1_1 (l_0 : (List Tapi_Discount)) (c_1 : (List Int)) (cents_2 : Int) (v7 : Int) (k8 : Nat) (c12 : ¬ ((↑k8 : Int) < (↑c_1.length : Int))) : Does Try.prog G0 0 (bodyAt Try.prog 28 [1, 1, 0, 1, 0, 0]) (tollwayref24_Reduction_L1_H l_0 c_1 cents_2 (v7, k8)) (.exit 0) (S 31 [(2, .int .i64 cents_2), (7, .int .i64 v7)] []) :=
  Does.of_viewM 0 400 (cs 3 [.op none .a, .br false]) [] (ps := [((decide ((↑k8 : Int) < (↑c_1.length : Int))) = false)]) (by kernel_rfl) (by kernel_rfl) (ok1 (decide_eq_false c12))
def tollwayref24_Reduction_L1_X (l_0 : (List Tapi_Discount)) (c_1 : (List Int)) (cents_2 : Int) : Int → AEx := fun o => (.exit 0)
def tollwayref24_Reduction_L1_E (l_0 : (List Tapi_Discount)) (c_1 : (List Int)) (cents_2 : Int) : Int → St := fun o => S 31 [(2, .int .i64 cents_2), (7, .int .i64 o)] []
theorem tollwayref24_Reduction_L1_does (l_0 : (List Tapi_Discount)) (c_1 : (List Int)) (cents_2 : Int) {s : (Int × Nat)} {r : Int} (h : lp (tollwayref24_Reduction_L1_step l_0 c_1 cents_2) s = some r) : Does Try.prog G0 0 (.loop (bodyAt Try.prog 28 [1, 1, 0, 1, 0, 0])) (tollwayref24_Reduction_L1_H l_0 c_1 cents_2 s) (tollwayref24_Reduction_L1_X l_0 c_1 cents_2 r) (tollwayref24_Reduction_L1_E l_0 c_1 cents_2 r) := by
  refine Does.lp (H := tollwayref24_Reduction_L1_H l_0 c_1 cents_2) (X := tollwayref24_Reduction_L1_X l_0 c_1 cents_2) (E := tollwayref24_Reduction_L1_E l_0 c_1 cents_2) (fun s s2 h => ?_) (fun s r h => ?_) h
  · obtain ⟨v7, k8⟩ := s
    unfold tollwayref24_Reduction_L1_step at h
    try dsimp only at h
    rcases ite_some h with ⟨c12, h⟩ | ⟨c12, h⟩
    · obtain ⟨x13, h14, h⟩ := bind_some h
      obtain ⟨h15, h⟩ := guard_some h
      obtain ⟨x16, h17, h⟩ := bind_some h
      obtain ⟨r18, h19, h⟩ := bind_some h
      obtain ⟨h20, h⟩ := guard_some h
      obtain ⟨h21, h⟩ := guard_some h
      simp only [Option.some.injEq, Sum.inl.injEq] at h
      subst h
      have hq := tollwayref24_Reduction_L1_0 l_0 c_1 cents_2 v7 k8 c12 x13 h14 h15 x16 h17 r18 h19 h20 h21
      first | exact hq | exact Eq.mp (by simp only [tollwayref24_Reduction_L1_H, List.length_set] <;> rfl) hq
    · simp at h
  · obtain ⟨v7, k8⟩ := s
    unfold tollwayref24_Reduction_L1_step at h
    try dsimp only at h
    rcases ite_some h with ⟨c12, h⟩ | ⟨c12, h⟩
    · obtain ⟨x13, h14, h⟩ := bind_some h
      obtain ⟨h15, h⟩ := guard_some h
      obtain ⟨x16, h17, h⟩ := bind_some h
      obtain ⟨r18, h19, h⟩ := bind_some h
      obtain ⟨h20, h⟩ := guard_some h
      obtain ⟨h21, h⟩ := guard_some h
      simp at h
    · simp only [Option.some.injEq, Sum.inr.injEq] at h
      subst h
      exact ⟨tollwayref24_Reduction_L1_1 l_0 c_1 cents_2 v7 k8 c12, by intro q; cases q⟩
noncomputable def tollwayref24_Reduction (l_0 : (List Tapi_Discount)) (c_1 : (List Int)) (cents_2 : Int) : Option Int :=
  (lp (tollwayref24_Reduction_L1_step l_0 c_1 cents_2) ((0 : Int), (0 : Nat))).bind fun o1 =>
  if o1 > cents_2 then
    some cents_2
  else
    some o1
def tollwayref24_Reduction_h1 (l_0 : (List Tapi_Discount)) (c_1 : (List Int)) (cents_2 : Int) (o1 : Int) : List CH := (cs 3 ((.fcut 0 (.exit 0) [(2, .int .i64 cents_2), (7, .int .i64 o1)] [] [] [(0, .lst (fl Tapi_Discount.enc l_0) l_0.length), (1, .lst (fl e_i64 c_1) c_1.length), (2, .int .i64 cents_2), (7, .int .i64 (0 : Int)), (8, .int .i64 (↑(0 : Nat) : Int))] []) :: (cs 2 [.op none .a])))
def tollwayref24_Reduction_p2 (l_0 : (List Tapi_Discount)) (c_1 : (List Int)) (cents_2 : Int) (o1 : Int) : List Prop := [((.lst (fl Tapi_Discount.enc l_0) l_0.length : AV) = .lst (fl Tapi_Discount.enc l_0) l_0.length), ((.lst (fl e_i64 c_1) c_1.length : AV) = .lst (fl e_i64 c_1) c_1.length), ((.int .i64 cents_2 : AV) = .int .i64 cents_2), ((.int .i64 0 : AV) = .int .i64 (0 : Int)), ((.int .i64 0 : AV) = .int .i64 (↑(0 : Nat) : Int)), (Does Try.prog G0 0 (.loop (bodyAt Try.prog 28 [1, 1, 0, 1, 0, 0])) (S 31 [(0, .lst (fl Tapi_Discount.enc l_0) l_0.length), (1, .lst (fl e_i64 c_1) c_1.length), (2, .int .i64 cents_2), (7, .int .i64 (0 : Int)), (8, .int .i64 (↑(0 : Nat) : Int))] []) (.exit 0) (S 31 [(2, .int .i64 cents_2), (7, .int .i64 o1)] []))]
theorem tollwayref24_Reduction_p2q (l_0 : (List Tapi_Discount)) (c_1 : (List Int)) (cents_2 : Int) (o1 : Int) (hl1 : lp (tollwayref24_Reduction_L1_step l_0 c_1 cents_2) ((0 : Int), (0 : Nat)) = some o1) : allOk (tollwayref24_Reduction_p2 l_0 c_1 cents_2 o1) := ⟨rfl, rfl, rfl, rfl, rfl, ok1 (tollwayref24_Reduction_L1_does l_0 c_1 cents_2 (s := ((0 : Int), (0 : Nat))) (r := o1) hl1)⟩
theorem tollwayref24_Reduction_0 (l_0 : (List Tapi_Discount)) (c_1 : (List Int)) (cents_2 : Int) (o1 : Int) (hl1 : lp (tollwayref24_Reduction_L1_step l_0 c_1 cents_2) ((0 : Int), (0 : Nat)) = some o1) (c22 : o1 > cents_2) : Ret Try.prog G0 28 [.lst (fl Tapi_Discount.enc l_0) l_0.length, .lst (fl e_i64 c_1) c_1.length, .int .i64 cents_2] (.int .i64 cents_2) [] :=
  Ret.of_view 400 ((tollwayref24_Reduction_h1 l_0 c_1 cents_2 o1) ++ ((.br true) :: (cs 2 []))) [] (ps := ((tollwayref24_Reduction_p2 l_0 c_1 cents_2 o1) ++ [((decide (o1 > cents_2)) = true)])) (by kernel_rfl) (by kernel_rfl) (allOk_append.2 ⟨(tollwayref24_Reduction_p2q l_0 c_1 cents_2 o1 hl1), (ok1 (decide_eq_true c22))⟩)
theorem tollwayref24_Reduction_1 (l_0 : (List Tapi_Discount)) (c_1 : (List Int)) (cents_2 : Int) (o1 : Int) (hl1 : lp (tollwayref24_Reduction_L1_step l_0 c_1 cents_2) ((0 : Int), (0 : Nat)) = some o1) (c22 : ¬ (o1 > cents_2)) : Ret Try.prog G0 28 [.lst (fl Tapi_Discount.enc l_0) l_0.length, .lst (fl e_i64 c_1) c_1.length, .int .i64 cents_2] (.int .i64 o1) [] :=
  Ret.of_view 400 ((tollwayref24_Reduction_h1 l_0 c_1 cents_2 o1) ++ ((.br false) :: (cs 2 []))) [] (ps := ((tollwayref24_Reduction_p2 l_0 c_1 cents_2 o1) ++ [((decide (o1 > cents_2)) = false)])) (by kernel_rfl) (by kernel_rfl) (allOk_append.2 ⟨(tollwayref24_Reduction_p2q l_0 c_1 cents_2 o1 hl1), (ok1 (decide_eq_false c22))⟩)
theorem tollwayref24_Reduction_ret (l_0 : (List Tapi_Discount)) (c_1 : (List Int)) (cents_2 : Int) (r : Int) (h : tollwayref24_Reduction l_0 c_1 cents_2 = some r) : Ret Try.prog G0 28 [.lst (fl Tapi_Discount.enc l_0) l_0.length, .lst (fl e_i64 c_1) c_1.length, .int .i64 cents_2] (.int .i64 r) [] := by
  unfold tollwayref24_Reduction at h
  obtain ⟨o1, hl1, h⟩ := bind_some h
  rcases ite_some h with ⟨c22, h⟩ | ⟨c22, h⟩
  · simp only [Option.some.injEq] at h
    subst h
    exact tollwayref24_Reduction_0 l_0 c_1 cents_2 o1 hl1 c22
  · simp only [Option.some.injEq] at h
    subst h
    exact tollwayref24_Reduction_1 l_0 c_1 cents_2 o1 hl1 c22
noncomputable def tollwayref24_before_L1_step (a_0 : (List Int)) (b_1 : (List Int)) : Nat → Option (Nat ⊕ (Bool ⊕ Unit)) := fun k5 =>
  if (↑k5 : Int) < (↑a_0.length : Int) then
    if (↑k5 : Int) < (↑b_1.length : Int) then
      (a_0[k5]?).bind fun x12 =>
      (b_1[k5]?).bind fun x14 =>
      if x12 = x14 then
        if InR .i64 ((↑k5 : Int) + 1) then
          some (Sum.inl (k5 + 1))
        else none
      else
        some (Sum.inr (Sum.inl (decide (x12 < x14))))
    else
      some (Sum.inr (Sum.inr (())))
  else
    some (Sum.inr (Sum.inr (())))
def tollwayref24_before_L1_H (a_0 : (List Int)) (b_1 : (List Int)) : Nat → St := fun (s : Nat) => S 41 [(0, .lst (fl e_i64 a_0) a_0.length), (1, .lst (fl e_i64 b_1) b_1.length), (5, .int .i64 (↑s : Int))] []
theorem tollwayref24_before_L1_0 (a_0 : (List Int)) (b_1 : (List Int)) (k5 : Nat) (c10 : (↑k5 : Int) < (↑a_0.length : Int)) (c11 : (↑k5 : Int) < (↑b_1.length : Int)) (x12 : Int) (h13 : a_0[k5]? = some x12) (x14 : Int) (h15 : b_1[k5]? = some x14) (c16 : x12 = x14) (h17 : InR .i64 ((↑k5 : Int) + 1)) : Does Try.prog G0 0 (bodyAt Try.prog 29 [1, 0, 1, 0, 0]) (tollwayref24_before_L1_H a_0 b_1 k5) .normal (S 41 [(0, .lst (fl e_i64 a_0) a_0.length), (1, .lst (fl e_i64 b_1) b_1.length), (5, .int .i64 ((↑k5 : Int) + 1))] []) :=
  Does.of_viewM 0 400 (cs 3 ((.op none .a) :: (.op none .c) :: (.op (some true) .c) :: (cs 2 ((.op none .a) :: (.op none .c) :: (.br true) :: (cs 2 ((.op none (.i k5)) :: (.op none (.v [.int .i64 x12])) :: (cs 2 [.op none (.i k5), .op none (.v [.int .i64 x14]), .op none .a, .br false, .op none .c, .op none .w, .op none .c]))))))) [] (ps := [((decide ((↑k5 : Int) < (↑a_0.length : Int))) = true), ((decide ((↑k5 : Int) < (↑b_1.length : Int))) = true), ((↑k5 : Int) = ((k5 : Nat) : Int) ∧ k5 < a_0.length), ((fl e_i64 a_0) ≠ []), (sub (fl e_i64 a_0) k5 1 = [.int .i64 x12]), ((↑k5 : Int) = ((k5 : Nat) : Int) ∧ k5 < b_1.length), ((fl e_i64 b_1) ≠ []), (sub (fl e_i64 b_1) k5 1 = [.int .i64 x14]), ((!(x12 == x14)) = false), (IntKind.min .i64 ≤ ((↑k5 : Int) + 1) ∧ ((↑k5 : Int) + 1) ≤ IntKind.max .i64)]) (by kernel_rfl) (by kernel_rfl) ⟨(decide_eq_true c10), (decide_eq_true c11), ⟨rfl, get_lt h13⟩, (fl_ne (f := e_i64) (z := 0) (fun _ => rfl) h13), (fl_sub1 (f := e_i64) (fun _ => rfl) h13 rfl), ⟨rfl, get_lt h15⟩, (fl_ne (f := e_i64) (z := 0) (fun _ => rfl) h15), (fl_sub1 (f := e_i64) (fun _ => rfl) h15 rfl), (not_f (beq_t c16)), ok1 h17⟩
theorem tollwayref24_before_L1_1 (a_0 : (List Int)) (b_1 : (List Int)) (k5 : Nat) (c10 : (↑k5 : Int) < (↑a_0.length : Int)) (c11 : (↑k5 : Int) < (↑b_1.length : Int)) (x12 : Int) (h13 : a_0[k5]? = some x12) (x14 : Int) (h15 : b_1[k5]? = some x14) (c16 : ¬ (x12 = x14)) : Does Try.prog G0 0 (bodyAt Try.prog 29 [1, 0, 1, 0, 0]) (tollwayref24_before_L1_H a_0 b_1 k5) .ret (S 41 [(4, .bool (decide (x12 < x14)))] []) :=
  Does.of_viewM 0 400 (cs 3 ((.op none .a) :: (.op none .c) :: (.op (some true) .c) :: (cs 2 ((.op none .a) :: (.op none .c) :: (.br true) :: (cs 2 ((.op none (.i k5)) :: (.op none (.v [.int .i64 x12])) :: (cs 2 ((.op none (.i k5)) :: (.op none (.v [.int .i64 x14])) :: (.op none .a) :: (.br true) :: (cs 2 ((.op none (.i k5)) :: (.op none (.v [.int .i64 x12])) :: (cs 2 [.op none (.i k5), .op none (.v [.int .i64 x14]), .op none .a, .op none .c]))))))))))) [] (ps := [((decide ((↑k5 : Int) < (↑a_0.length : Int))) = true), ((decide ((↑k5 : Int) < (↑b_1.length : Int))) = true), ((↑k5 : Int) = ((k5 : Nat) : Int) ∧ k5 < a_0.length), ((fl e_i64 a_0) ≠ []), (sub (fl e_i64 a_0) k5 1 = [.int .i64 x12]), ((↑k5 : Int) = ((k5 : Nat) : Int) ∧ k5 < b_1.length), ((fl e_i64 b_1) ≠ []), (sub (fl e_i64 b_1) k5 1 = [.int .i64 x14]), ((!(x12 == x14)) = true), ((↑k5 : Int) = ((k5 : Nat) : Int) ∧ k5 < a_0.length), ((fl e_i64 a_0) ≠ []), (sub (fl e_i64 a_0) k5 1 = [.int .i64 x12]), ((↑k5 : Int) = ((k5 : Nat) : Int) ∧ k5 < b_1.length), ((fl e_i64 b_1) ≠ []), (sub (fl e_i64 b_1) k5 1 = [.int .i64 x14])]) (by kernel_rfl) (by kernel_rfl) ⟨(decide_eq_true c10), (decide_eq_true c11), ⟨rfl, get_lt h13⟩, (fl_ne (f := e_i64) (z := 0) (fun _ => rfl) h13), (fl_sub1 (f := e_i64) (fun _ => rfl) h13 rfl), ⟨rfl, get_lt h15⟩, (fl_ne (f := e_i64) (z := 0) (fun _ => rfl) h15), (fl_sub1 (f := e_i64) (fun _ => rfl) h15 rfl), (not_t (beq_f c16)), ⟨rfl, get_lt h13⟩, (fl_ne (f := e_i64) (z := 0) (fun _ => rfl) h13), (fl_sub1 (f := e_i64) (fun _ => rfl) h13 rfl), ⟨rfl, get_lt h15⟩, (fl_ne (f := e_i64) (z := 0) (fun _ => rfl) h15), ok1 (fl_sub1 (f := e_i64) (fun _ => rfl) h15 rfl)⟩
theorem tollwayref24_before_L1_2 (a_0 : (List Int)) (b_1 : (List Int)) (k5 : Nat) (c10 : (↑k5 : Int) < (↑a_0.length : Int)) (c11 : ¬ ((↑k5 : Int) < (↑b_1.length : Int))) : Does Try.prog G0 0 (bodyAt Try.prog 29 [1, 0, 1, 0, 0]) (tollwayref24_before_L1_H a_0 b_1 k5) (.exit 0) (S 41 [(0, .lst (fl e_i64 a_0) a_0.length), (1, .lst (fl e_i64 b_1) b_1.length)] []) :=
  Does.of_viewM 0 400 (cs 3 ((.op none .a) :: (.op none .c) :: (.op (some true) .c) :: (cs 2 [.op none .a, .op none .c, .br false]))) [] (ps := [((decide ((↑k5 : Int) < (↑a_0.length : Int))) = true), ((decide ((↑k5 : Int) < (↑b_1.length : Int))) = false)]) (by kernel_rfl) (by kernel_rfl) ⟨(decide_eq_true c10), ok1 (decide_eq_false c11)⟩
theorem tollwayref24_before_L1_3 (a_0 : (List Int)) (b_1 : (List Int)) (k5 : Nat) (c10 : ¬ ((↑k5 : Int) < (↑a_0.length : Int))) : Does Try.prog G0 0 (bodyAt Try.prog 29 [1, 0, 1, 0, 0]) (tollwayref24_before_L1_H a_0 b_1 k5) (.exit 0) (S 41 [(0, .lst (fl e_i64 a_0) a_0.length), (1, .lst (fl e_i64 b_1) b_1.length)] []) :=
  Does.of_viewM 0 400 (cs 3 ((.op none .a) :: (.op none .c) :: (.op (some false) .c) :: (cs 4 [.br false]))) [] (ps := [((decide ((↑k5 : Int) < (↑a_0.length : Int))) = false), (false = false)]) (by kernel_rfl) (by kernel_rfl) ⟨(decide_eq_false c10), ok1 rfl⟩
def tollwayref24_before_L1_X (a_0 : (List Int)) (b_1 : (List Int)) : (Bool ⊕ Unit) → AEx := fun q => match q with | Sum.inl o => .ret | Sum.inr (o) => (.exit 0)
def tollwayref24_before_L1_E (a_0 : (List Int)) (b_1 : (List Int)) : (Bool ⊕ Unit) → St := fun q => match q with | Sum.inl o => S 41 [(4, .bool o)] [] | Sum.inr (o) => S 41 [(0, .lst (fl e_i64 a_0) a_0.length), (1, .lst (fl e_i64 b_1) b_1.length)] []
theorem tollwayref24_before_L1_does (a_0 : (List Int)) (b_1 : (List Int)) {s : Nat} {r : Bool ⊕ Unit} (h : lp (tollwayref24_before_L1_step a_0 b_1) s = some r) : Does Try.prog G0 0 (.loop (bodyAt Try.prog 29 [1, 0, 1, 0, 0])) (tollwayref24_before_L1_H a_0 b_1 s) (tollwayref24_before_L1_X a_0 b_1 r) (tollwayref24_before_L1_E a_0 b_1 r) := by
  refine Does.lp (H := tollwayref24_before_L1_H a_0 b_1) (X := tollwayref24_before_L1_X a_0 b_1) (E := tollwayref24_before_L1_E a_0 b_1) (fun s s2 h => ?_) (fun s r h => ?_) h
  · revert h; revert s; intro k5 h
    unfold tollwayref24_before_L1_step at h
    try dsimp only at h
    rcases ite_some h with ⟨c10, h⟩ | ⟨c10, h⟩
    · rcases ite_some h with ⟨c11, h⟩ | ⟨c11, h⟩
      · obtain ⟨x12, h13, h⟩ := bind_some h
        obtain ⟨x14, h15, h⟩ := bind_some h
        rcases ite_some h with ⟨c16, h⟩ | ⟨c16, h⟩
        · obtain ⟨h17, h⟩ := guard_some h
          simp only [Option.some.injEq, Sum.inl.injEq] at h
          subst h
          have hq := tollwayref24_before_L1_0 a_0 b_1 k5 c10 c11 x12 h13 x14 h15 c16 h17
          first | exact hq | exact Eq.mp (by simp only [tollwayref24_before_L1_H, List.length_set] <;> rfl) hq
        · simp at h
      · simp at h
    · simp at h
  · revert h; revert s; intro k5 h
    unfold tollwayref24_before_L1_step at h
    try dsimp only at h
    rcases ite_some h with ⟨c10, h⟩ | ⟨c10, h⟩
    · rcases ite_some h with ⟨c11, h⟩ | ⟨c11, h⟩
      · obtain ⟨x12, h13, h⟩ := bind_some h
        obtain ⟨x14, h15, h⟩ := bind_some h
        rcases ite_some h with ⟨c16, h⟩ | ⟨c16, h⟩
        · obtain ⟨h17, h⟩ := guard_some h
          simp at h
        · simp only [Option.some.injEq, Sum.inr.injEq] at h
          subst h
          exact ⟨tollwayref24_before_L1_1 a_0 b_1 k5 c10 c11 x12 h13 x14 h15 c16, by intro q; cases q⟩
      · simp only [Option.some.injEq, Sum.inr.injEq] at h
        subst h
        exact ⟨tollwayref24_before_L1_2 a_0 b_1 k5 c10 c11, by intro q; cases q⟩
    · simp only [Option.some.injEq, Sum.inr.injEq] at h
      subst h
      exact ⟨tollwayref24_before_L1_3 a_0 b_1 k5 c10, by intro q; cases q⟩
noncomputable def tollwayref24_before (a_0 : (List Int)) (b_1 : (List Int)) : Option Bool :=
  (lp (tollwayref24_before_L1_step a_0 b_1) (0 : Nat)).bind fun qq => match qq with
  | Sum.inl o1 =>
    some o1
  | Sum.inr (o1) =>
    some (decide ((↑a_0.length : Int) < (↑b_1.length : Int)))
def tollwayref24_before_p1 (a_0 : (List Int)) (b_1 : (List Int)) : List Prop := [((.lst (fl e_i64 a_0) a_0.length : AV) = .lst (fl e_i64 a_0) a_0.length), ((.lst (fl e_i64 b_1) b_1.length : AV) = .lst (fl e_i64 b_1) b_1.length), ((.int .i64 0 : AV) = .int .i64 (↑(0 : Nat) : Int))]
theorem tollwayref24_before_p1q (a_0 : (List Int)) (b_1 : (List Int)) : allOk (tollwayref24_before_p1 a_0 b_1) := ⟨rfl, rfl, ok1 rfl⟩
theorem tollwayref24_before_0 (a_0 : (List Int)) (b_1 : (List Int)) (o1 : Bool) (hl1 : lp (tollwayref24_before_L1_step a_0 b_1) (0 : Nat) = some (Sum.inl o1)) : Ret Try.prog G0 29 [.lst (fl e_i64 a_0) a_0.length, .lst (fl e_i64 b_1) b_1.length] (.bool o1) [] :=
  Ret.of_view 400 ((cs 2 []) ++ [.fcut 0 .ret [(4, .bool o1)] [] [] [(0, .lst (fl e_i64 a_0) a_0.length), (1, .lst (fl e_i64 b_1) b_1.length), (5, .int .i64 (↑(0 : Nat) : Int))] []]) [] (ps := ((tollwayref24_before_p1 a_0 b_1) ++ [(Does Try.prog G0 0 (.loop (bodyAt Try.prog 29 [1, 0, 1, 0, 0])) (S 41 [(0, .lst (fl e_i64 a_0) a_0.length), (1, .lst (fl e_i64 b_1) b_1.length), (5, .int .i64 (↑(0 : Nat) : Int))] []) .ret (S 41 [(4, .bool o1)] []))])) (by kernel_rfl) (by kernel_rfl) (allOk_append.2 ⟨(tollwayref24_before_p1q a_0 b_1), (ok1 (tollwayref24_before_L1_does a_0 b_1 (s := (0 : Nat)) (r := Sum.inl o1) hl1))⟩)
theorem tollwayref24_before_1 (a_0 : (List Int)) (b_1 : (List Int)) (o1 : Unit) (hl1 : lp (tollwayref24_before_L1_step a_0 b_1) (0 : Nat) = some (Sum.inr (o1))) : Ret Try.prog G0 29 [.lst (fl e_i64 a_0) a_0.length, .lst (fl e_i64 b_1) b_1.length] (.bool (decide ((↑a_0.length : Int) < (↑b_1.length : Int)))) [] :=
  Ret.of_view 400 ((cs 2 []) ++ ((.fcut 0 (.exit 0) [(0, .lst (fl e_i64 a_0) a_0.length), (1, .lst (fl e_i64 b_1) b_1.length)] [] [] [(0, .lst (fl e_i64 a_0) a_0.length), (1, .lst (fl e_i64 b_1) b_1.length), (5, .int .i64 (↑(0 : Nat) : Int))] []) :: (cs 4 [.op none .a, .op none .c]))) [] (ps := ((tollwayref24_before_p1 a_0 b_1) ++ [(Does Try.prog G0 0 (.loop (bodyAt Try.prog 29 [1, 0, 1, 0, 0])) (S 41 [(0, .lst (fl e_i64 a_0) a_0.length), (1, .lst (fl e_i64 b_1) b_1.length), (5, .int .i64 (↑(0 : Nat) : Int))] []) (.exit 0) (S 41 [(0, .lst (fl e_i64 a_0) a_0.length), (1, .lst (fl e_i64 b_1) b_1.length)] []))])) (by kernel_rfl) (by kernel_rfl) (allOk_append.2 ⟨(tollwayref24_before_p1q a_0 b_1), (ok1 (tollwayref24_before_L1_does a_0 b_1 (s := (0 : Nat)) (r := Sum.inr (o1)) hl1))⟩)
theorem tollwayref24_before_ret (a_0 : (List Int)) (b_1 : (List Int)) (r : Bool) (h : tollwayref24_before a_0 b_1 = some r) : Ret Try.prog G0 29 [.lst (fl e_i64 a_0) a_0.length, .lst (fl e_i64 b_1) b_1.length] (.bool r) [] := by
  unfold tollwayref24_before at h
  obtain ⟨qq, hl1, h⟩ := bind_some h
  rcases qq with o1 | o1
  · dsimp only at h
    simp only [Option.some.injEq] at h
    subst h
    exact tollwayref24_before_0 a_0 b_1 o1 hl1
  · dsimp only at h
    simp only [Option.some.injEq] at h
    subst h
    exact tollwayref24_before_1 a_0 b_1 o1 hl1
noncomputable def tollwayref24_Best_L6_step (l_0 : (List Tapi_Discount)) (cents_1 : Int) : (Int × Nat) → Option ((Int × Nat) ⊕ Int)
  | (v8, k9) =>
    if (↑k9 : Int) < (↑l_0.length : Int) then
      if InR .i64 (v8 * 2) then
        if InR .i64 ((↑k9 : Int) + 1) then
          some (Sum.inl ((v8 * 2), (k9 + 1)))
        else none
      else none
    else
      some (Sum.inr v8)
def tollwayref24_Best_L6_H (l_0 : (List Tapi_Discount)) (cents_1 : Int) : (Int × Nat) → St := fun (s : (Int × Nat)) => S 83 [(0, .lst (fl Tapi_Discount.enc l_0) l_0.length), (1, .int .i64 cents_1), (8, .int .i64 s.1), (9, .int .i64 (↑s.2 : Int))] []
theorem tollwayref24_Best_L6_0 (l_0 : (List Tapi_Discount)) (cents_1 : Int) (v8 : Int) (k9 : Nat) (c10 : (↑k9 : Int) < (↑l_0.length : Int)) (h11 : InR .i64 (v8 * 2)) (h12 : InR .i64 ((↑k9 : Int) + 1)) : Does Try.prog G0 0 (bodyAt Try.prog 11 [1, 1, 1, 1, 1, 0, 1, 0, 0]) (tollwayref24_Best_L6_H l_0 cents_1 (v8, k9)) .normal (S 83 [(0, .lst (fl Tapi_Discount.enc l_0) l_0.length), (1, .int .i64 cents_1), (8, .int .i64 (v8 * 2)), (9, .int .i64 ((↑k9 : Int) + 1))] []) :=
  Does.of_viewM 0 400 (cs 3 ((.op none .a) :: (.br true) :: (.op none .c) :: (.op none .w) :: (cs 2 [.op none .w, .op none .c]))) [] (ps := [((decide ((↑k9 : Int) < (↑l_0.length : Int))) = true), (IntKind.min .i64 ≤ (v8 * 2) ∧ (v8 * 2) ≤ IntKind.max .i64), (IntKind.min .i64 ≤ ((↑k9 : Int) + 1) ∧ ((↑k9 : Int) + 1) ≤ IntKind.max .i64)]) (by kernel_rfl) (by kernel_rfl) ⟨(decide_eq_true c10), h11, ok1 h12⟩
theorem tollwayref24_Best_L6_1 (l_0 : (List Tapi_Discount)) (cents_1 : Int) (v8 : Int) (k9 : Nat) (c10 : ¬ ((↑k9 : Int) < (↑l_0.length : Int))) : Does Try.prog G0 0 (bodyAt Try.prog 11 [1, 1, 1, 1, 1, 0, 1, 0, 0]) (tollwayref24_Best_L6_H l_0 cents_1 (v8, k9)) (.exit 0) (S 83 [(0, .lst (fl Tapi_Discount.enc l_0) l_0.length), (1, .int .i64 cents_1), (8, .int .i64 v8)] []) :=
  Does.of_viewM 0 400 (cs 3 [.op none .a, .br false]) [] (ps := [((decide ((↑k9 : Int) < (↑l_0.length : Int))) = false)]) (by kernel_rfl) (by kernel_rfl) (ok1 (decide_eq_false c10))
def tollwayref24_Best_L6_X (l_0 : (List Tapi_Discount)) (cents_1 : Int) : Int → AEx := fun o => (.exit 0)
def tollwayref24_Best_L6_E (l_0 : (List Tapi_Discount)) (cents_1 : Int) : Int → St := fun o => S 83 [(0, .lst (fl Tapi_Discount.enc l_0) l_0.length), (1, .int .i64 cents_1), (8, .int .i64 o)] []
theorem tollwayref24_Best_L6_does (l_0 : (List Tapi_Discount)) (cents_1 : Int) {s : (Int × Nat)} {r : Int} (h : lp (tollwayref24_Best_L6_step l_0 cents_1) s = some r) : Does Try.prog G0 0 (.loop (bodyAt Try.prog 11 [1, 1, 1, 1, 1, 0, 1, 0, 0])) (tollwayref24_Best_L6_H l_0 cents_1 s) (tollwayref24_Best_L6_X l_0 cents_1 r) (tollwayref24_Best_L6_E l_0 cents_1 r) := by
  refine Does.lp (H := tollwayref24_Best_L6_H l_0 cents_1) (X := tollwayref24_Best_L6_X l_0 cents_1) (E := tollwayref24_Best_L6_E l_0 cents_1) (fun s s2 h => ?_) (fun s r h => ?_) h
  · obtain ⟨v8, k9⟩ := s
    unfold tollwayref24_Best_L6_step at h
    try dsimp only at h
    rcases ite_some h with ⟨c10, h⟩ | ⟨c10, h⟩
    · obtain ⟨h11, h⟩ := guard_some h
      obtain ⟨h12, h⟩ := guard_some h
      simp only [Option.some.injEq, Sum.inl.injEq] at h
      subst h
      have hq := tollwayref24_Best_L6_0 l_0 cents_1 v8 k9 c10 h11 h12
      first | exact hq | exact Eq.mp (by simp only [tollwayref24_Best_L6_H, List.length_set] <;> rfl) hq
    · simp at h
  · obtain ⟨v8, k9⟩ := s
    unfold tollwayref24_Best_L6_step at h
    try dsimp only at h
    rcases ite_some h with ⟨c10, h⟩ | ⟨c10, h⟩
    · obtain ⟨h11, h⟩ := guard_some h
      obtain ⟨h12, h⟩ := guard_some h
      simp at h
    · simp only [Option.some.injEq, Sum.inr.injEq] at h
      subst h
      exact ⟨tollwayref24_Best_L6_1 l_0 cents_1 v8 k9 c10, by intro q; cases q⟩
noncomputable def tollwayref24_Best_L13_step (l_0 : (List Tapi_Discount)) (cents_1 : Int) (o6 : Int) : ((List Int) × Int × Nat) → Option (((List Int) × Int × Nat) ⊕ ((List Int) × Int))
  | (v10, v11, k12) =>
    if (↑k12 : Int) < o6 then
      (tollwayref24_chosen l_0 (↑k12 : Int)).bind fun r35 =>
      if r35.2 = true then
        (tollwayref24_Reduction l_0 r35.1 cents_1).bind fun r38 =>
        if r38 > v11 then
          if InR .i64 ((↑k12 : Int) + 1) then
            some (Sum.inl (r35.1, r38, (k12 + 1)))
          else none
        else
          if r38 = v11 then
            if (↑r35.1.length : Int) < (↑v10.length : Int) then
              if InR .i64 ((↑k12 : Int) + 1) then
                some (Sum.inl (r35.1, r38, (k12 + 1)))
              else none
            else
              if (↑r35.1.length : Int) = (↑v10.length : Int) then
                (tollwayref24_before r35.1 v10).bind fun r46 =>
                if r46 = true then
                  if InR .i64 ((↑k12 : Int) + 1) then
                    some (Sum.inl (r35.1, r38, (k12 + 1)))
                  else none
                else
                  if InR .i64 ((↑k12 : Int) + 1) then
                    some (Sum.inl (v10, v11, (k12 + 1)))
                  else none
              else
                if InR .i64 ((↑k12 : Int) + 1) then
                  some (Sum.inl (v10, v11, (k12 + 1)))
                else none
          else
            if InR .i64 ((↑k12 : Int) + 1) then
              some (Sum.inl (v10, v11, (k12 + 1)))
            else none
      else
        if InR .i64 ((↑k12 : Int) + 1) then
          some (Sum.inl (v10, v11, (k12 + 1)))
        else none
    else
      some (Sum.inr (v10, v11))
def tollwayref24_Best_L13_H (l_0 : (List Tapi_Discount)) (cents_1 : Int) (o6 : Int) : ((List Int) × Int × Nat) → St := fun (s : ((List Int) × Int × Nat)) => S 83 [(0, .lst (fl Tapi_Discount.enc l_0) l_0.length), (1, .int .i64 cents_1), (8, .int .i64 o6), (10, .lst (fl e_i64 s.1) s.1.length), (11, .int .i64 s.2.1), (12, .int .i64 (↑s.2.2 : Int))] []
theorem tollwayref24_Best_L13_0 (l_0 : (List Tapi_Discount)) (cents_1 : Int) (o6 : Int) (v10 : (List Int)) (v11 : Int) (k12 : Nat) (c34 : (↑k12 : Int) < o6) (r35 : ((List Int) × Bool)) (h36 : tollwayref24_chosen l_0 (↑k12 : Int) = some r35) (c37 : r35.2 = true) (r38 : Int) (h39 : tollwayref24_Reduction l_0 r35.1 cents_1 = some r38) (c40 : r38 > v11) (h41 : InR .i64 ((↑k12 : Int) + 1)) : Does Try.prog G0 0 (bodyAt Try.prog 11 [1, 1, 1, 1, 1, 1, 1, 1, 0, 1, 0, 0]) (tollwayref24_Best_L13_H l_0 cents_1 o6 (v10, v11, k12)) .normal (S 83 [(0, .lst (fl Tapi_Discount.enc l_0) l_0.length), (1, .int .i64 cents_1), (8, .int .i64 o6), (10, .lst (fl e_i64 r35.1) r35.1.length), (11, .int .i64 r38), (12, .int .i64 ((↑k12 : Int) + 1))] []) :=
  Does.of_viewM 0 400 (cs 2 ((.op none .a) :: (.br true) :: (cs 2 ((.ret none [.lst (fl Tapi_Discount.enc l_0) l_0.length, .int .i64 (↑k12 : Int)] (.tup [.vec 0 r35.1.length 1, .bool r35.2]) [(bV (fl e_i64 r35.1) 3)]) :: (cs 7 ((.br false) :: (cs 3 ((.ret none [.lst (fl Tapi_Discount.enc l_0) l_0.length, .lst (fl e_i64 r35.1) r35.1.length, .int .i64 cents_1] (.int .i64 r38) []) :: (cs 3 ((.op none .a) :: (.op none .c) :: (.op (some true) .c) :: (cs 22 ((.br true) :: (cs 5 [.op none .w, .op none .c, .tr (.frz [.t 10, .t 44, .t 13, .t 49, .t 79] (fl e_i64 r35.1) r35.1.length)]))))))))))))) [] (ps := [((decide ((↑k12 : Int) < o6)) = true), ((.lst (fl Tapi_Discount.enc l_0) l_0.length : AV) = .lst (fl Tapi_Discount.enc l_0) l_0.length), ((.int .i64 (↑k12 : Int) : AV) = .int .i64 (↑k12 : Int)), (Ret Try.prog G0 27 [.lst (fl Tapi_Discount.enc l_0) l_0.length, .int .i64 (↑k12 : Int)] (.tup [.vec 0 r35.1.length 1, .bool r35.2]) [(bV (fl e_i64 r35.1) 3)]), ((!r35.2) = false), ((.lst (fl Tapi_Discount.enc l_0) l_0.length : AV) = .lst (fl Tapi_Discount.enc l_0) l_0.length), ((fl e_i64 r35.1) = (fl e_i64 r35.1) ∧ r35.1.length = r35.1.length ∧ List.length ((fl e_i64 r35.1) : List AV) = r35.1.length), ((.int .i64 cents_1 : AV) = .int .i64 cents_1), (datBlks []), (Ret Try.prog G0 28 [.lst (fl Tapi_Discount.enc l_0) l_0.length, .lst (fl e_i64 r35.1) r35.1.length, .int .i64 cents_1] (.int .i64 r38) []), ((decide (r38 > v11)) = true), (true = true), (IntKind.min .i64 ≤ ((↑k12 : Int) + 1) ∧ ((↑k12 : Int) + 1) ≤ IntKind.max .i64), (0 = 0 ∧ (fl e_i64 r35.1) = (fl e_i64 r35.1) ∧ r35.1.length = r35.1.length ∧ List.length ((fl e_i64 r35.1) : List AV) = r35.1.length), (0 = 0 ∧ (fl e_i64 r35.1) = (fl e_i64 r35.1) ∧ r35.1.length = r35.1.length ∧ List.length ((fl e_i64 r35.1) : List AV) = r35.1.length), (0 = 0 ∧ (fl e_i64 r35.1) = (fl e_i64 r35.1) ∧ r35.1.length = r35.1.length ∧ List.length ((fl e_i64 r35.1) : List AV) = r35.1.length), (0 = 0 ∧ (fl e_i64 r35.1) = (fl e_i64 r35.1) ∧ r35.1.length = r35.1.length ∧ List.length ((fl e_i64 r35.1) : List AV) = r35.1.length), (0 = 0 ∧ (fl e_i64 r35.1) = (fl e_i64 r35.1) ∧ r35.1.length = r35.1.length ∧ List.length ((fl e_i64 r35.1) : List AV) = r35.1.length)]) (by kernel_rfl) (by kernel_rfl) ⟨(decide_eq_true c34), rfl, rfl, (tollwayref24_chosen_ret l_0 (↑k12 : Int) r35 h36), (not_f c37), rfl, ⟨rfl, rfl, (fl_length1 (f := e_i64) (fun _ => rfl) _)⟩, rfl, trivial, (tollwayref24_Reduction_ret l_0 r35.1 cents_1 r38 h39), (decide_eq_true c40), rfl, h41, ⟨rfl, rfl, rfl, (fl_length1 (f := e_i64) (fun _ => rfl) _)⟩, ⟨rfl, rfl, rfl, (fl_length1 (f := e_i64) (fun _ => rfl) _)⟩, ⟨rfl, rfl, rfl, (fl_length1 (f := e_i64) (fun _ => rfl) _)⟩, ⟨rfl, rfl, rfl, (fl_length1 (f := e_i64) (fun _ => rfl) _)⟩, ok1 ⟨rfl, rfl, rfl, (fl_length1 (f := e_i64) (fun _ => rfl) _)⟩⟩
theorem tollwayref24_Best_L13_1 (l_0 : (List Tapi_Discount)) (cents_1 : Int) (o6 : Int) (v10 : (List Int)) (v11 : Int) (k12 : Nat) (c34 : (↑k12 : Int) < o6) (r35 : ((List Int) × Bool)) (h36 : tollwayref24_chosen l_0 (↑k12 : Int) = some r35) (c37 : r35.2 = true) (r38 : Int) (h39 : tollwayref24_Reduction l_0 r35.1 cents_1 = some r38) (c40 : ¬ (r38 > v11)) (c42 : r38 = v11) (c43 : (↑r35.1.length : Int) < (↑v10.length : Int)) (h44 : InR .i64 ((↑k12 : Int) + 1)) : Does Try.prog G0 0 (bodyAt Try.prog 11 [1, 1, 1, 1, 1, 1, 1, 1, 0, 1, 0, 0]) (tollwayref24_Best_L13_H l_0 cents_1 o6 (v10, v11, k12)) .normal (S 83 [(0, .lst (fl Tapi_Discount.enc l_0) l_0.length), (1, .int .i64 cents_1), (8, .int .i64 o6), (10, .lst (fl e_i64 r35.1) r35.1.length), (11, .int .i64 r38), (12, .int .i64 ((↑k12 : Int) + 1))] []) :=
  Does.of_viewM 0 400 (cs 2 ((.op none .a) :: (.br true) :: (cs 2 ((.ret none [.lst (fl Tapi_Discount.enc l_0) l_0.length, .int .i64 (↑k12 : Int)] (.tup [.vec 0 r35.1.length 1, .bool r35.2]) [(bV (fl e_i64 r35.1) 3)]) :: (cs 7 ((.br false) :: (cs 3 ((.ret none [.lst (fl Tapi_Discount.enc l_0) l_0.length, .lst (fl e_i64 r35.1) r35.1.length, .int .i64 cents_1] (.int .i64 r38) []) :: (cs 3 ((.op none .a) :: (.op none .c) :: (.op (some false) .c) :: (.op none .c) :: (.op none .a) :: (.op none .c) :: (.op (some true) .c) :: (cs 3 ((.op none .a) :: (.op none .c) :: (.op (some true) .c) :: (cs 12 ((.br true) :: (cs 5 [.op none .w, .op none .c, .tr (.frz [.t 10, .t 44, .t 13, .t 49, .t 60, .t 79] (fl e_i64 r35.1) r35.1.length)]))))))))))))))) [] (ps := [((decide ((↑k12 : Int) < o6)) = true), ((.lst (fl Tapi_Discount.enc l_0) l_0.length : AV) = .lst (fl Tapi_Discount.enc l_0) l_0.length), ((.int .i64 (↑k12 : Int) : AV) = .int .i64 (↑k12 : Int)), (Ret Try.prog G0 27 [.lst (fl Tapi_Discount.enc l_0) l_0.length, .int .i64 (↑k12 : Int)] (.tup [.vec 0 r35.1.length 1, .bool r35.2]) [(bV (fl e_i64 r35.1) 3)]), ((!r35.2) = false), ((.lst (fl Tapi_Discount.enc l_0) l_0.length : AV) = .lst (fl Tapi_Discount.enc l_0) l_0.length), ((fl e_i64 r35.1) = (fl e_i64 r35.1) ∧ r35.1.length = r35.1.length ∧ List.length ((fl e_i64 r35.1) : List AV) = r35.1.length), ((.int .i64 cents_1 : AV) = .int .i64 cents_1), (datBlks []), (Ret Try.prog G0 28 [.lst (fl Tapi_Discount.enc l_0) l_0.length, .lst (fl e_i64 r35.1) r35.1.length, .int .i64 cents_1] (.int .i64 r38) []), ((decide (r38 > v11)) = false), ((r38 == v11) = true), ((decide ((↑r35.1.length : Int) < (↑v10.length : Int))) = true), (true = true), (IntKind.min .i64 ≤ ((↑k12 : Int) + 1) ∧ ((↑k12 : Int) + 1) ≤ IntKind.max .i64), (0 = 0 ∧ (fl e_i64 r35.1) = (fl e_i64 r35.1) ∧ r35.1.length = r35.1.length ∧ List.length ((fl e_i64 r35.1) : List AV) = r35.1.length), (0 = 0 ∧ (fl e_i64 r35.1) = (fl e_i64 r35.1) ∧ r35.1.length = r35.1.length ∧ List.length ((fl e_i64 r35.1) : List AV) = r35.1.length), (0 = 0 ∧ (fl e_i64 r35.1) = (fl e_i64 r35.1) ∧ r35.1.length = r35.1.length ∧ List.length ((fl e_i64 r35.1) : List AV) = r35.1.length), (0 = 0 ∧ (fl e_i64 r35.1) = (fl e_i64 r35.1) ∧ r35.1.length = r35.1.length ∧ List.length ((fl e_i64 r35.1) : List AV) = r35.1.length), (0 = 0 ∧ (fl e_i64 r35.1) = (fl e_i64 r35.1) ∧ r35.1.length = r35.1.length ∧ List.length ((fl e_i64 r35.1) : List AV) = r35.1.length), (0 = 0 ∧ (fl e_i64 r35.1) = (fl e_i64 r35.1) ∧ r35.1.length = r35.1.length ∧ List.length ((fl e_i64 r35.1) : List AV) = r35.1.length)]) (by kernel_rfl) (by kernel_rfl) ⟨(decide_eq_true c34), rfl, rfl, (tollwayref24_chosen_ret l_0 (↑k12 : Int) r35 h36), (not_f c37), rfl, ⟨rfl, rfl, (fl_length1 (f := e_i64) (fun _ => rfl) _)⟩, rfl, trivial, (tollwayref24_Reduction_ret l_0 r35.1 cents_1 r38 h39), (decide_eq_false c40), (beq_t c42), (decide_eq_true c43), rfl, h44, ⟨rfl, rfl, rfl, (fl_length1 (f := e_i64) (fun _ => rfl) _)⟩, ⟨rfl, rfl, rfl, (fl_length1 (f := e_i64) (fun _ => rfl) _)⟩, ⟨rfl, rfl, rfl, (fl_length1 (f := e_i64) (fun _ => rfl) _)⟩, ⟨rfl, rfl, rfl, (fl_length1 (f := e_i64) (fun _ => rfl) _)⟩, ⟨rfl, rfl, rfl, (fl_length1 (f := e_i64) (fun _ => rfl) _)⟩, ok1 ⟨rfl, rfl, rfl, (fl_length1 (f := e_i64) (fun _ => rfl) _)⟩⟩
theorem tollwayref24_Best_L13_2 (l_0 : (List Tapi_Discount)) (cents_1 : Int) (o6 : Int) (v10 : (List Int)) (v11 : Int) (k12 : Nat) (c34 : (↑k12 : Int) < o6) (r35 : ((List Int) × Bool)) (h36 : tollwayref24_chosen l_0 (↑k12 : Int) = some r35) (c37 : r35.2 = true) (r38 : Int) (h39 : tollwayref24_Reduction l_0 r35.1 cents_1 = some r38) (c40 : ¬ (r38 > v11)) (c42 : r38 = v11) (c43 : ¬ ((↑r35.1.length : Int) < (↑v10.length : Int))) (c45 : (↑r35.1.length : Int) = (↑v10.length : Int)) (r46 : Bool) (h47 : tollwayref24_before r35.1 v10 = some r46) (c48 : r46 = true) (h49 : InR .i64 ((↑k12 : Int) + 1)) : Does Try.prog G0 0 (bodyAt Try.prog 11 [1, 1, 1, 1, 1, 1, 1, 1, 0, 1, 0, 0]) (tollwayref24_Best_L13_H l_0 cents_1 o6 (v10, v11, k12)) .normal (S 83 [(0, .lst (fl Tapi_Discount.enc l_0) l_0.length), (1, .int .i64 cents_1), (8, .int .i64 o6), (10, .lst (fl e_i64 r35.1) r35.1.length), (11, .int .i64 r38), (12, .int .i64 ((↑k12 : Int) + 1))] []) :=
  Does.of_viewM 0 400 (cs 2 ((.op none .a) :: (.br true) :: (cs 2 ((.ret none [.lst (fl Tapi_Discount.enc l_0) l_0.length, .int .i64 (↑k12 : Int)] (.tup [.vec 0 r35.1.length 1, .bool r35.2]) [(bV (fl e_i64 r35.1) 3)]) :: (cs 7 ((.br false) :: (cs 3 ((.ret none [.lst (fl Tapi_Discount.enc l_0) l_0.length, .lst (fl e_i64 r35.1) r35.1.length, .int .i64 cents_1] (.int .i64 r38) []) :: (cs 3 ((.op none .a) :: (.op none .c) :: (.op (some false) .c) :: (.op none .c) :: (.op none .a) :: (.op none .c) :: (.op (some true) .c) :: (cs 3 ((.op none .a) :: (.op none .c) :: (.op (some false) .c) :: (cs 3 ((.op none .a) :: (.op none .c) :: (.op (some true) .c) :: (.op none .c) :: (.ret none [.lst (fl e_i64 r35.1) r35.1.length, .lst (fl e_i64 v10) v10.length] (.bool r46) []) :: (cs 4 ((.br true) :: (cs 5 [.op none .w, .op none .c, .tr (.frz [.t 10, .t 44, .t 13, .t 49, .t 60, .t 66, .t 72, .t 79] (fl e_i64 r35.1) r35.1.length)]))))))))))))))))) [] (ps := [((decide ((↑k12 : Int) < o6)) = true), ((.lst (fl Tapi_Discount.enc l_0) l_0.length : AV) = .lst (fl Tapi_Discount.enc l_0) l_0.length), ((.int .i64 (↑k12 : Int) : AV) = .int .i64 (↑k12 : Int)), (Ret Try.prog G0 27 [.lst (fl Tapi_Discount.enc l_0) l_0.length, .int .i64 (↑k12 : Int)] (.tup [.vec 0 r35.1.length 1, .bool r35.2]) [(bV (fl e_i64 r35.1) 3)]), ((!r35.2) = false), ((.lst (fl Tapi_Discount.enc l_0) l_0.length : AV) = .lst (fl Tapi_Discount.enc l_0) l_0.length), ((fl e_i64 r35.1) = (fl e_i64 r35.1) ∧ r35.1.length = r35.1.length ∧ List.length ((fl e_i64 r35.1) : List AV) = r35.1.length), ((.int .i64 cents_1 : AV) = .int .i64 cents_1), (datBlks []), (Ret Try.prog G0 28 [.lst (fl Tapi_Discount.enc l_0) l_0.length, .lst (fl e_i64 r35.1) r35.1.length, .int .i64 cents_1] (.int .i64 r38) []), ((decide (r38 > v11)) = false), ((r38 == v11) = true), ((decide ((↑r35.1.length : Int) < (↑v10.length : Int))) = false), (((↑r35.1.length : Int) == (↑v10.length : Int)) = true), ((fl e_i64 r35.1) = (fl e_i64 r35.1) ∧ r35.1.length = r35.1.length ∧ List.length ((fl e_i64 r35.1) : List AV) = r35.1.length), ((.lst (fl e_i64 v10) v10.length : AV) = .lst (fl e_i64 v10) v10.length), (datBlks []), (Ret Try.prog G0 29 [.lst (fl e_i64 r35.1) r35.1.length, .lst (fl e_i64 v10) v10.length] (.bool r46) []), (r46 = true), (IntKind.min .i64 ≤ ((↑k12 : Int) + 1) ∧ ((↑k12 : Int) + 1) ≤ IntKind.max .i64), (0 = 0 ∧ (fl e_i64 r35.1) = (fl e_i64 r35.1) ∧ r35.1.length = r35.1.length ∧ List.length ((fl e_i64 r35.1) : List AV) = r35.1.length), (0 = 0 ∧ (fl e_i64 r35.1) = (fl e_i64 r35.1) ∧ r35.1.length = r35.1.length ∧ List.length ((fl e_i64 r35.1) : List AV) = r35.1.length), (0 = 0 ∧ (fl e_i64 r35.1) = (fl e_i64 r35.1) ∧ r35.1.length = r35.1.length ∧ List.length ((fl e_i64 r35.1) : List AV) = r35.1.length), (0 = 0 ∧ (fl e_i64 r35.1) = (fl e_i64 r35.1) ∧ r35.1.length = r35.1.length ∧ List.length ((fl e_i64 r35.1) : List AV) = r35.1.length), (0 = 0 ∧ (fl e_i64 r35.1) = (fl e_i64 r35.1) ∧ r35.1.length = r35.1.length ∧ List.length ((fl e_i64 r35.1) : List AV) = r35.1.length), (0 = 0 ∧ (fl e_i64 r35.1) = (fl e_i64 r35.1) ∧ r35.1.length = r35.1.length ∧ List.length ((fl e_i64 r35.1) : List AV) = r35.1.length), (0 = 0 ∧ (fl e_i64 r35.1) = (fl e_i64 r35.1) ∧ r35.1.length = r35.1.length ∧ List.length ((fl e_i64 r35.1) : List AV) = r35.1.length), (0 = 0 ∧ (fl e_i64 r35.1) = (fl e_i64 r35.1) ∧ r35.1.length = r35.1.length ∧ List.length ((fl e_i64 r35.1) : List AV) = r35.1.length)]) (by kernel_rfl) (by kernel_rfl) ⟨(decide_eq_true c34), rfl, rfl, (tollwayref24_chosen_ret l_0 (↑k12 : Int) r35 h36), (not_f c37), rfl, ⟨rfl, rfl, (fl_length1 (f := e_i64) (fun _ => rfl) _)⟩, rfl, trivial, (tollwayref24_Reduction_ret l_0 r35.1 cents_1 r38 h39), (decide_eq_false c40), (beq_t c42), (decide_eq_false c43), (beq_t c45), ⟨rfl, rfl, (fl_length1 (f := e_i64) (fun _ => rfl) _)⟩, rfl, trivial, (tollwayref24_before_ret r35.1 v10 r46 h47), c48, h49, ⟨rfl, rfl, rfl, (fl_length1 (f := e_i64) (fun _ => rfl) _)⟩, ⟨rfl, rfl, rfl, (fl_length1 (f := e_i64) (fun _ => rfl) _)⟩, ⟨rfl, rfl, rfl, (fl_length1 (f := e_i64) (fun _ => rfl) _)⟩, ⟨rfl, rfl, rfl, (fl_length1 (f := e_i64) (fun _ => rfl) _)⟩, ⟨rfl, rfl, rfl, (fl_length1 (f := e_i64) (fun _ => rfl) _)⟩, ⟨rfl, rfl, rfl, (fl_length1 (f := e_i64) (fun _ => rfl) _)⟩, ⟨rfl, rfl, rfl, (fl_length1 (f := e_i64) (fun _ => rfl) _)⟩, ok1 ⟨rfl, rfl, rfl, (fl_length1 (f := e_i64) (fun _ => rfl) _)⟩⟩
theorem tollwayref24_Best_L13_3 (l_0 : (List Tapi_Discount)) (cents_1 : Int) (o6 : Int) (v10 : (List Int)) (v11 : Int) (k12 : Nat) (c34 : (↑k12 : Int) < o6) (r35 : ((List Int) × Bool)) (h36 : tollwayref24_chosen l_0 (↑k12 : Int) = some r35) (c37 : r35.2 = true) (r38 : Int) (h39 : tollwayref24_Reduction l_0 r35.1 cents_1 = some r38) (c40 : ¬ (r38 > v11)) (c42 : r38 = v11) (c43 : ¬ ((↑r35.1.length : Int) < (↑v10.length : Int))) (c45 : (↑r35.1.length : Int) = (↑v10.length : Int)) (r46 : Bool) (h47 : tollwayref24_before r35.1 v10 = some r46) (c48 : ¬ (r46 = true)) (h50 : InR .i64 ((↑k12 : Int) + 1)) : Does Try.prog G0 0 (bodyAt Try.prog 11 [1, 1, 1, 1, 1, 1, 1, 1, 0, 1, 0, 0]) (tollwayref24_Best_L13_H l_0 cents_1 o6 (v10, v11, k12)) .normal (S 83 [(0, .lst (fl Tapi_Discount.enc l_0) l_0.length), (1, .int .i64 cents_1), (8, .int .i64 o6), (10, .lst (fl e_i64 v10) v10.length), (11, .int .i64 v11), (12, .int .i64 ((↑k12 : Int) + 1))] []) :=
  Does.of_viewM 0 400 (cs 2 ((.op none .a) :: (.br true) :: (cs 2 ((.ret none [.lst (fl Tapi_Discount.enc l_0) l_0.length, .int .i64 (↑k12 : Int)] (.tup [.vec 0 r35.1.length 1, .bool r35.2]) [(bV (fl e_i64 r35.1) 3)]) :: (cs 7 ((.br false) :: (cs 3 ((.ret none [.lst (fl Tapi_Discount.enc l_0) l_0.length, .lst (fl e_i64 r35.1) r35.1.length, .int .i64 cents_1] (.int .i64 r38) []) :: (cs 3 ((.op none .a) :: (.op none .c) :: (.op (some false) .c) :: (.op none .c) :: (.op none .a) :: (.op none .c) :: (.op (some true) .c) :: (cs 3 ((.op none .a) :: (.op none .c) :: (.op (some false) .c) :: (cs 3 ((.op none .a) :: (.op none .c) :: (.op (some true) .c) :: (.op none .c) :: (.ret none [.lst (fl e_i64 r35.1) r35.1.length, .lst (fl e_i64 v10) v10.length] (.bool r46) []) :: (cs 4 [.br false, .op none .c, .op none .w, .op none .c]))))))))))))))) [] (ps := [((decide ((↑k12 : Int) < o6)) = true), ((.lst (fl Tapi_Discount.enc l_0) l_0.length : AV) = .lst (fl Tapi_Discount.enc l_0) l_0.length), ((.int .i64 (↑k12 : Int) : AV) = .int .i64 (↑k12 : Int)), (Ret Try.prog G0 27 [.lst (fl Tapi_Discount.enc l_0) l_0.length, .int .i64 (↑k12 : Int)] (.tup [.vec 0 r35.1.length 1, .bool r35.2]) [(bV (fl e_i64 r35.1) 3)]), ((!r35.2) = false), ((.lst (fl Tapi_Discount.enc l_0) l_0.length : AV) = .lst (fl Tapi_Discount.enc l_0) l_0.length), ((fl e_i64 r35.1) = (fl e_i64 r35.1) ∧ r35.1.length = r35.1.length ∧ List.length ((fl e_i64 r35.1) : List AV) = r35.1.length), ((.int .i64 cents_1 : AV) = .int .i64 cents_1), (datBlks []), (Ret Try.prog G0 28 [.lst (fl Tapi_Discount.enc l_0) l_0.length, .lst (fl e_i64 r35.1) r35.1.length, .int .i64 cents_1] (.int .i64 r38) []), ((decide (r38 > v11)) = false), ((r38 == v11) = true), ((decide ((↑r35.1.length : Int) < (↑v10.length : Int))) = false), (((↑r35.1.length : Int) == (↑v10.length : Int)) = true), ((fl e_i64 r35.1) = (fl e_i64 r35.1) ∧ r35.1.length = r35.1.length ∧ List.length ((fl e_i64 r35.1) : List AV) = r35.1.length), ((.lst (fl e_i64 v10) v10.length : AV) = .lst (fl e_i64 v10) v10.length), (datBlks []), (Ret Try.prog G0 29 [.lst (fl e_i64 r35.1) r35.1.length, .lst (fl e_i64 v10) v10.length] (.bool r46) []), (r46 = false), (IntKind.min .i64 ≤ ((↑k12 : Int) + 1) ∧ ((↑k12 : Int) + 1) ≤ IntKind.max .i64)]) (by kernel_rfl) (by kernel_rfl) ⟨(decide_eq_true c34), rfl, rfl, (tollwayref24_chosen_ret l_0 (↑k12 : Int) r35 h36), (not_f c37), rfl, ⟨rfl, rfl, (fl_length1 (f := e_i64) (fun _ => rfl) _)⟩, rfl, trivial, (tollwayref24_Reduction_ret l_0 r35.1 cents_1 r38 h39), (decide_eq_false c40), (beq_t c42), (decide_eq_false c43), (beq_t c45), ⟨rfl, rfl, (fl_length1 (f := e_i64) (fun _ => rfl) _)⟩, rfl, trivial, (tollwayref24_before_ret r35.1 v10 r46 h47), (eq_false_of_ne_true c48), ok1 h50⟩
theorem tollwayref24_Best_L13_4 (l_0 : (List Tapi_Discount)) (cents_1 : Int) (o6 : Int) (v10 : (List Int)) (v11 : Int) (k12 : Nat) (c34 : (↑k12 : Int) < o6) (r35 : ((List Int) × Bool)) (h36 : tollwayref24_chosen l_0 (↑k12 : Int) = some r35) (c37 : r35.2 = true) (r38 : Int) (h39 : tollwayref24_Reduction l_0 r35.1 cents_1 = some r38) (c40 : ¬ (r38 > v11)) (c42 : r38 = v11) (c43 : ¬ ((↑r35.1.length : Int) < (↑v10.length : Int))) (c45 : ¬ ((↑r35.1.length : Int) = (↑v10.length : Int))) (h51 : InR .i64 ((↑k12 : Int) + 1)) : Does Try.prog G0 0 (bodyAt Try.prog 11 [1, 1, 1, 1, 1, 1, 1, 1, 0, 1, 0, 0]) (tollwayref24_Best_L13_H l_0 cents_1 o6 (v10, v11, k12)) .normal (S 83 [(0, .lst (fl Tapi_Discount.enc l_0) l_0.length), (1, .int .i64 cents_1), (8, .int .i64 o6), (10, .lst (fl e_i64 v10) v10.length), (11, .int .i64 v11), (12, .int .i64 ((↑k12 : Int) + 1))] []) :=
  Does.of_viewM 0 400 (cs 2 ((.op none .a) :: (.br true) :: (cs 2 ((.ret none [.lst (fl Tapi_Discount.enc l_0) l_0.length, .int .i64 (↑k12 : Int)] (.tup [.vec 0 r35.1.length 1, .bool r35.2]) [(bV (fl e_i64 r35.1) 3)]) :: (cs 7 ((.br false) :: (cs 3 ((.ret none [.lst (fl Tapi_Discount.enc l_0) l_0.length, .lst (fl e_i64 r35.1) r35.1.length, .int .i64 cents_1] (.int .i64 r38) []) :: (cs 3 ((.op none .a) :: (.op none .c) :: (.op (some false) .c) :: (.op none .c) :: (.op none .a) :: (.op none .c) :: (.op (some true) .c) :: (cs 3 ((.op none .a) :: (.op none .c) :: (.op (some false) .c) :: (cs 3 ((.op none .a) :: (.op none .c) :: (.op (some false) .c) :: (cs 6 [.br false, .op none .c, .op none .w, .op none .c]))))))))))))))) [] (ps := [((decide ((↑k12 : Int) < o6)) = true), ((.lst (fl Tapi_Discount.enc l_0) l_0.length : AV) = .lst (fl Tapi_Discount.enc l_0) l_0.length), ((.int .i64 (↑k12 : Int) : AV) = .int .i64 (↑k12 : Int)), (Ret Try.prog G0 27 [.lst (fl Tapi_Discount.enc l_0) l_0.length, .int .i64 (↑k12 : Int)] (.tup [.vec 0 r35.1.length 1, .bool r35.2]) [(bV (fl e_i64 r35.1) 3)]), ((!r35.2) = false), ((.lst (fl Tapi_Discount.enc l_0) l_0.length : AV) = .lst (fl Tapi_Discount.enc l_0) l_0.length), ((fl e_i64 r35.1) = (fl e_i64 r35.1) ∧ r35.1.length = r35.1.length ∧ List.length ((fl e_i64 r35.1) : List AV) = r35.1.length), ((.int .i64 cents_1 : AV) = .int .i64 cents_1), (datBlks []), (Ret Try.prog G0 28 [.lst (fl Tapi_Discount.enc l_0) l_0.length, .lst (fl e_i64 r35.1) r35.1.length, .int .i64 cents_1] (.int .i64 r38) []), ((decide (r38 > v11)) = false), ((r38 == v11) = true), ((decide ((↑r35.1.length : Int) < (↑v10.length : Int))) = false), (((↑r35.1.length : Int) == (↑v10.length : Int)) = false), (false = false), (IntKind.min .i64 ≤ ((↑k12 : Int) + 1) ∧ ((↑k12 : Int) + 1) ≤ IntKind.max .i64)]) (by kernel_rfl) (by kernel_rfl) ⟨(decide_eq_true c34), rfl, rfl, (tollwayref24_chosen_ret l_0 (↑k12 : Int) r35 h36), (not_f c37), rfl, ⟨rfl, rfl, (fl_length1 (f := e_i64) (fun _ => rfl) _)⟩, rfl, trivial, (tollwayref24_Reduction_ret l_0 r35.1 cents_1 r38 h39), (decide_eq_false c40), (beq_t c42), (decide_eq_false c43), (beq_f c45), rfl, ok1 h51⟩
theorem tollwayref24_Best_L13_5 (l_0 : (List Tapi_Discount)) (cents_1 : Int) (o6 : Int) (v10 : (List Int)) (v11 : Int) (k12 : Nat) (c34 : (↑k12 : Int) < o6) (r35 : ((List Int) × Bool)) (h36 : tollwayref24_chosen l_0 (↑k12 : Int) = some r35) (c37 : r35.2 = true) (r38 : Int) (h39 : tollwayref24_Reduction l_0 r35.1 cents_1 = some r38) (c40 : ¬ (r38 > v11)) (c42 : ¬ (r38 = v11)) (h52 : InR .i64 ((↑k12 : Int) + 1)) : Does Try.prog G0 0 (bodyAt Try.prog 11 [1, 1, 1, 1, 1, 1, 1, 1, 0, 1, 0, 0]) (tollwayref24_Best_L13_H l_0 cents_1 o6 (v10, v11, k12)) .normal (S 83 [(0, .lst (fl Tapi_Discount.enc l_0) l_0.length), (1, .int .i64 cents_1), (8, .int .i64 o6), (10, .lst (fl e_i64 v10) v10.length), (11, .int .i64 v11), (12, .int .i64 ((↑k12 : Int) + 1))] []) :=
  Does.of_viewM 0 400 (cs 2 ((.op none .a) :: (.br true) :: (cs 2 ((.ret none [.lst (fl Tapi_Discount.enc l_0) l_0.length, .int .i64 (↑k12 : Int)] (.tup [.vec 0 r35.1.length 1, .bool r35.2]) [(bV (fl e_i64 r35.1) 3)]) :: (cs 7 ((.br false) :: (cs 3 ((.ret none [.lst (fl Tapi_Discount.enc l_0) l_0.length, .lst (fl e_i64 r35.1) r35.1.length, .int .i64 cents_1] (.int .i64 r38) []) :: (cs 3 ((.op none .a) :: (.op none .c) :: (.op (some false) .c) :: (.op none .c) :: (.op none .a) :: (.op none .c) :: (.op (some false) .c) :: (cs 18 [.br false, .op none .c, .op none .w, .op none .c]))))))))))) [] (ps := [((decide ((↑k12 : Int) < o6)) = true), ((.lst (fl Tapi_Discount.enc l_0) l_0.length : AV) = .lst (fl Tapi_Discount.enc l_0) l_0.length), ((.int .i64 (↑k12 : Int) : AV) = .int .i64 (↑k12 : Int)), (Ret Try.prog G0 27 [.lst (fl Tapi_Discount.enc l_0) l_0.length, .int .i64 (↑k12 : Int)] (.tup [.vec 0 r35.1.length 1, .bool r35.2]) [(bV (fl e_i64 r35.1) 3)]), ((!r35.2) = false), ((.lst (fl Tapi_Discount.enc l_0) l_0.length : AV) = .lst (fl Tapi_Discount.enc l_0) l_0.length), ((fl e_i64 r35.1) = (fl e_i64 r35.1) ∧ r35.1.length = r35.1.length ∧ List.length ((fl e_i64 r35.1) : List AV) = r35.1.length), ((.int .i64 cents_1 : AV) = .int .i64 cents_1), (datBlks []), (Ret Try.prog G0 28 [.lst (fl Tapi_Discount.enc l_0) l_0.length, .lst (fl e_i64 r35.1) r35.1.length, .int .i64 cents_1] (.int .i64 r38) []), ((decide (r38 > v11)) = false), ((r38 == v11) = false), (false = false), (IntKind.min .i64 ≤ ((↑k12 : Int) + 1) ∧ ((↑k12 : Int) + 1) ≤ IntKind.max .i64)]) (by kernel_rfl) (by kernel_rfl) ⟨(decide_eq_true c34), rfl, rfl, (tollwayref24_chosen_ret l_0 (↑k12 : Int) r35 h36), (not_f c37), rfl, ⟨rfl, rfl, (fl_length1 (f := e_i64) (fun _ => rfl) _)⟩, rfl, trivial, (tollwayref24_Reduction_ret l_0 r35.1 cents_1 r38 h39), (decide_eq_false c40), (beq_f c42), rfl, ok1 h52⟩
theorem tollwayref24_Best_L13_6 (l_0 : (List Tapi_Discount)) (cents_1 : Int) (o6 : Int) (v10 : (List Int)) (v11 : Int) (k12 : Nat) (c34 : (↑k12 : Int) < o6) (r35 : ((List Int) × Bool)) (h36 : tollwayref24_chosen l_0 (↑k12 : Int) = some r35) (c37 : ¬ (r35.2 = true)) (h53 : InR .i64 ((↑k12 : Int) + 1)) : Does Try.prog G0 0 (bodyAt Try.prog 11 [1, 1, 1, 1, 1, 1, 1, 1, 0, 1, 0, 0]) (tollwayref24_Best_L13_H l_0 cents_1 o6 (v10, v11, k12)) .normal (S 83 [(0, .lst (fl Tapi_Discount.enc l_0) l_0.length), (1, .int .i64 cents_1), (8, .int .i64 o6), (10, .lst (fl e_i64 v10) v10.length), (11, .int .i64 v11), (12, .int .i64 ((↑k12 : Int) + 1))] []) :=
  Does.of_viewM 0 400 (cs 2 ((.op none .a) :: (.br true) :: (cs 2 ((.ret none [.lst (fl Tapi_Discount.enc l_0) l_0.length, .int .i64 (↑k12 : Int)] (.tup [.vec 0 r35.1.length 1, .bool r35.2]) [(bV (fl e_i64 r35.1) 3)]) :: (cs 7 [.br true, .op none .c, .op none .w, .op none .c]))))) [] (ps := [((decide ((↑k12 : Int) < o6)) = true), ((.lst (fl Tapi_Discount.enc l_0) l_0.length : AV) = .lst (fl Tapi_Discount.enc l_0) l_0.length), ((.int .i64 (↑k12 : Int) : AV) = .int .i64 (↑k12 : Int)), (Ret Try.prog G0 27 [.lst (fl Tapi_Discount.enc l_0) l_0.length, .int .i64 (↑k12 : Int)] (.tup [.vec 0 r35.1.length 1, .bool r35.2]) [(bV (fl e_i64 r35.1) 3)]), ((!r35.2) = true), (IntKind.min .i64 ≤ ((↑k12 : Int) + 1) ∧ ((↑k12 : Int) + 1) ≤ IntKind.max .i64)]) (by kernel_rfl) (by kernel_rfl) ⟨(decide_eq_true c34), rfl, rfl, (tollwayref24_chosen_ret l_0 (↑k12 : Int) r35 h36), (not_t (eq_false_of_ne_true c37)), ok1 h53⟩
theorem tollwayref24_Best_L13_7 (l_0 : (List Tapi_Discount)) (cents_1 : Int) (o6 : Int) (v10 : (List Int)) (v11 : Int) (k12 : Nat) (c34 : ¬ ((↑k12 : Int) < o6)) : Does Try.prog G0 0 (bodyAt Try.prog 11 [1, 1, 1, 1, 1, 1, 1, 1, 0, 1, 0, 0]) (tollwayref24_Best_L13_H l_0 cents_1 o6 (v10, v11, k12)) (.exit 2) (S 83 [(10, .lst (fl e_i64 v10) v10.length), (11, .int .i64 v11)] []) :=
  Does.of_viewM 0 400 (cs 2 [.op none .a, .br false]) [] (ps := [((decide ((↑k12 : Int) < o6)) = false)]) (by kernel_rfl) (by kernel_rfl) (ok1 (decide_eq_false c34))
def tollwayref24_Best_L13_X (l_0 : (List Tapi_Discount)) (cents_1 : Int) (o6 : Int) : ((List Int) × Int) → AEx := fun o => (.exit 2)
def tollwayref24_Best_L13_E (l_0 : (List Tapi_Discount)) (cents_1 : Int) (o6 : Int) : ((List Int) × Int) → St := fun o => S 83 [(10, .lst (fl e_i64 o.1) o.1.length), (11, .int .i64 o.2)] []
theorem tollwayref24_Best_L13_does (l_0 : (List Tapi_Discount)) (cents_1 : Int) (o6 : Int) {s : ((List Int) × Int × Nat)} {r : ((List Int) × Int)} (h : lp (tollwayref24_Best_L13_step l_0 cents_1 o6) s = some r) : Does Try.prog G0 0 (.loop (bodyAt Try.prog 11 [1, 1, 1, 1, 1, 1, 1, 1, 0, 1, 0, 0])) (tollwayref24_Best_L13_H l_0 cents_1 o6 s) (tollwayref24_Best_L13_X l_0 cents_1 o6 r) (tollwayref24_Best_L13_E l_0 cents_1 o6 r) := by
  refine Does.lp (H := tollwayref24_Best_L13_H l_0 cents_1 o6) (X := tollwayref24_Best_L13_X l_0 cents_1 o6) (E := tollwayref24_Best_L13_E l_0 cents_1 o6) (fun s s2 h => ?_) (fun s r h => ?_) h
  · obtain ⟨v10, v11, k12⟩ := s
    unfold tollwayref24_Best_L13_step at h
    try dsimp only at h
    rcases ite_some h with ⟨c34, h⟩ | ⟨c34, h⟩
    · obtain ⟨r35, h36, h⟩ := bind_some h
      rcases ite_some h with ⟨c37, h⟩ | ⟨c37, h⟩
      · obtain ⟨r38, h39, h⟩ := bind_some h
        rcases ite_some h with ⟨c40, h⟩ | ⟨c40, h⟩
        · obtain ⟨h41, h⟩ := guard_some h
          simp only [Option.some.injEq, Sum.inl.injEq] at h
          subst h
          have hq := tollwayref24_Best_L13_0 l_0 cents_1 o6 v10 v11 k12 c34 r35 h36 c37 r38 h39 c40 h41
          first | exact hq | exact Eq.mp (by simp only [tollwayref24_Best_L13_H, List.length_set] <;> rfl) hq
        · rcases ite_some h with ⟨c42, h⟩ | ⟨c42, h⟩
          · rcases ite_some h with ⟨c43, h⟩ | ⟨c43, h⟩
            · obtain ⟨h44, h⟩ := guard_some h
              simp only [Option.some.injEq, Sum.inl.injEq] at h
              subst h
              have hq := tollwayref24_Best_L13_1 l_0 cents_1 o6 v10 v11 k12 c34 r35 h36 c37 r38 h39 c40 c42 c43 h44
              first | exact hq | exact Eq.mp (by simp only [tollwayref24_Best_L13_H, List.length_set] <;> rfl) hq
            · rcases ite_some h with ⟨c45, h⟩ | ⟨c45, h⟩
              · obtain ⟨r46, h47, h⟩ := bind_some h
                rcases ite_some h with ⟨c48, h⟩ | ⟨c48, h⟩
                · obtain ⟨h49, h⟩ := guard_some h
                  simp only [Option.some.injEq, Sum.inl.injEq] at h
                  subst h
                  have hq := tollwayref24_Best_L13_2 l_0 cents_1 o6 v10 v11 k12 c34 r35 h36 c37 r38 h39 c40 c42 c43 c45 r46 h47 c48 h49
                  first | exact hq | exact Eq.mp (by simp only [tollwayref24_Best_L13_H, List.length_set] <;> rfl) hq
                · obtain ⟨h50, h⟩ := guard_some h
                  simp only [Option.some.injEq, Sum.inl.injEq] at h
                  subst h
                  have hq := tollwayref24_Best_L13_3 l_0 cents_1 o6 v10 v11 k12 c34 r35 h36 c37 r38 h39 c40 c42 c43 c45 r46 h47 c48 h50
                  first | exact hq | exact Eq.mp (by simp only [tollwayref24_Best_L13_H, List.length_set] <;> rfl) hq
              · obtain ⟨h51, h⟩ := guard_some h
                simp only [Option.some.injEq, Sum.inl.injEq] at h
                subst h
                have hq := tollwayref24_Best_L13_4 l_0 cents_1 o6 v10 v11 k12 c34 r35 h36 c37 r38 h39 c40 c42 c43 c45 h51
                first | exact hq | exact Eq.mp (by simp only [tollwayref24_Best_L13_H, List.length_set] <;> rfl) hq
          · obtain ⟨h52, h⟩ := guard_some h
            simp only [Option.some.injEq, Sum.inl.injEq] at h
            subst h
            have hq := tollwayref24_Best_L13_5 l_0 cents_1 o6 v10 v11 k12 c34 r35 h36 c37 r38 h39 c40 c42 h52
            first | exact hq | exact Eq.mp (by simp only [tollwayref24_Best_L13_H, List.length_set] <;> rfl) hq
      · obtain ⟨h53, h⟩ := guard_some h
        simp only [Option.some.injEq, Sum.inl.injEq] at h
        subst h
        have hq := tollwayref24_Best_L13_6 l_0 cents_1 o6 v10 v11 k12 c34 r35 h36 c37 h53
        first | exact hq | exact Eq.mp (by simp only [tollwayref24_Best_L13_H, List.length_set] <;> rfl) hq
    · simp at h
  · obtain ⟨v10, v11, k12⟩ := s
    unfold tollwayref24_Best_L13_step at h
    try dsimp only at h
    rcases ite_some h with ⟨c34, h⟩ | ⟨c34, h⟩
    · obtain ⟨r35, h36, h⟩ := bind_some h
      rcases ite_some h with ⟨c37, h⟩ | ⟨c37, h⟩
      · obtain ⟨r38, h39, h⟩ := bind_some h
        rcases ite_some h with ⟨c40, h⟩ | ⟨c40, h⟩
        · obtain ⟨h41, h⟩ := guard_some h
          simp at h
        · rcases ite_some h with ⟨c42, h⟩ | ⟨c42, h⟩
          · rcases ite_some h with ⟨c43, h⟩ | ⟨c43, h⟩
            · obtain ⟨h44, h⟩ := guard_some h
              simp at h
            · rcases ite_some h with ⟨c45, h⟩ | ⟨c45, h⟩
              · obtain ⟨r46, h47, h⟩ := bind_some h
                rcases ite_some h with ⟨c48, h⟩ | ⟨c48, h⟩
                · obtain ⟨h49, h⟩ := guard_some h
                  simp at h
                · obtain ⟨h50, h⟩ := guard_some h
                  simp at h
              · obtain ⟨h51, h⟩ := guard_some h
                simp at h
          · obtain ⟨h52, h⟩ := guard_some h
            simp at h
      · obtain ⟨h53, h⟩ := guard_some h
        simp at h
    · simp only [Option.some.injEq, Sum.inr.injEq] at h
      subst h
      exact ⟨tollwayref24_Best_L13_7 l_0 cents_1 o6 v10 v11 k12 c34, by intro q; cases q⟩
noncomputable def tollwayref24_Best (l_0 : (List Tapi_Discount)) (cents_1 : Int) : Option ((List Int) × Int × Int) :=
  (tollwayref24_CheckAll l_0).bind fun r1 =>
  if r1 = (0 : Int) then
    if cents_1 < (0 : Int) then
      some ([], 0, 13)
    else
      if cents_1 > (1125899906842624 : Int) then
        some ([], 0, 13)
      else
        (lp (tollwayref24_Best_L6_step l_0 cents_1) ((1 : Int), (0 : Nat))).bind fun o6 =>
        (lp (tollwayref24_Best_L13_step l_0 cents_1 o6) (([] : (List Int)), (0 : Int), (1 : Nat))).bind fun o13 =>
        some (o13.1, o13.2, 0)
  else
    some ([], 0, r1)
def tollwayref24_Best_h1 (l_0 : (List Tapi_Discount)) (r1 : Int) : List CH := (cs 4 ((.ret none [.lst (fl Tapi_Discount.enc l_0) l_0.length] (.int .i64 r1) []) :: (cs 2 [.op none .a])))
def tollwayref24_Best_h2  : List CH := [.br false, .op none .c, .op none .a, .op none .c]
def tollwayref24_Best_h3  : List CH := [.op (some false) .c, .op none .a, .op none .c]
theorem tollwayref24_Best_0 (l_0 : (List Tapi_Discount)) (cents_1 : Int) (r1 : Int) (h2 : tollwayref24_CheckAll l_0 = some r1) (c3 : r1 = (0 : Int)) (c4 : cents_1 < (0 : Int)) : Ret Try.prog G0 11 [.lst (fl Tapi_Discount.enc l_0) l_0.length, .int .i64 cents_1] (.tup [.lst [] 0, .int .i64 0, .int .i64 13]) [] :=
  Ret.of_view 400 ((tollwayref24_Best_h1 l_0 r1) ++ ((tollwayref24_Best_h2) ++ ((.op (some true) .c) :: (cs 2 ((.br true) :: (cs 3 [.tr (.nl (.t 4))])))))) [] (ps := ([((.lst (fl Tapi_Discount.enc l_0) l_0.length : AV) = .lst (fl Tapi_Discount.enc l_0) l_0.length), (Ret Try.prog G0 26 [.lst (fl Tapi_Discount.enc l_0) l_0.length] (.int .i64 r1) [])] ++ ([((!(r1 == (0 : Int))) = false)] ++ [((decide (cents_1 < (0 : Int))) = true), (true = true)]))) (by kernel_rfl) (by kernel_rfl) (allOk_append.2 ⟨⟨rfl, ok1 (tollwayref24_CheckAll_ret l_0 r1 h2)⟩, (allOk_append.2 ⟨(ok1 (not_f (beq_t c3))), ⟨(decide_eq_true c4), ok1 rfl⟩⟩)⟩)
theorem tollwayref24_Best_1 (l_0 : (List Tapi_Discount)) (cents_1 : Int) (r1 : Int) (h2 : tollwayref24_CheckAll l_0 = some r1) (c3 : r1 = (0 : Int)) (c4 : ¬ (cents_1 < (0 : Int))) (c5 : cents_1 > (1125899906842624 : Int)) : Ret Try.prog G0 11 [.lst (fl Tapi_Discount.enc l_0) l_0.length, .int .i64 cents_1] (.tup [.lst [] 0, .int .i64 0, .int .i64 13]) [] :=
  Ret.of_view 400 ((tollwayref24_Best_h1 l_0 r1) ++ ((tollwayref24_Best_h2) ++ ((tollwayref24_Best_h3) ++ ((.br true) :: (cs 3 [.tr (.nl (.t 4))]))))) [] (ps := ([((.lst (fl Tapi_Discount.enc l_0) l_0.length : AV) = .lst (fl Tapi_Discount.enc l_0) l_0.length), (Ret Try.prog G0 26 [.lst (fl Tapi_Discount.enc l_0) l_0.length] (.int .i64 r1) [])] ++ ([((!(r1 == (0 : Int))) = false)] ++ ([((decide (cents_1 < (0 : Int))) = false)] ++ [((decide (cents_1 > (1125899906842624 : Int))) = true)])))) (by kernel_rfl) (by kernel_rfl) (allOk_append.2 ⟨⟨rfl, ok1 (tollwayref24_CheckAll_ret l_0 r1 h2)⟩, (allOk_append.2 ⟨(ok1 (not_f (beq_t c3))), (allOk_append.2 ⟨(ok1 (decide_eq_false c4)), (ok1 (decide_eq_true c5))⟩)⟩)⟩)
theorem tollwayref24_Best_2 (l_0 : (List Tapi_Discount)) (cents_1 : Int) (r1 : Int) (h2 : tollwayref24_CheckAll l_0 = some r1) (c3 : r1 = (0 : Int)) (c4 : ¬ (cents_1 < (0 : Int))) (c5 : ¬ (cents_1 > (1125899906842624 : Int))) (o6 : Int) (hl6 : lp (tollwayref24_Best_L6_step l_0 cents_1) ((1 : Int), (0 : Nat)) = some o6) (o13 : ((List Int) × Int)) (hl13 : lp (tollwayref24_Best_L13_step l_0 cents_1 o6) (([] : (List Int)), (0 : Int), (1 : Nat)) = some o13) : Ret Try.prog G0 11 [.lst (fl Tapi_Discount.enc l_0) l_0.length, .int .i64 cents_1] (.tup [.lst (fl e_i64 o13.1) o13.1.length, .int .i64 o13.2, .int .i64 0]) [] :=
  Ret.of_view 400 ((tollwayref24_Best_h1 l_0 r1) ++ ((tollwayref24_Best_h2) ++ ((tollwayref24_Best_h3) ++ ((.br false) :: (cs 2 ((.fcut 0 (.exit 0) [(0, .lst (fl Tapi_Discount.enc l_0) l_0.length), (1, .int .i64 cents_1), (8, .int .i64 o6)] [] [] [(0, .lst (fl Tapi_Discount.enc l_0) l_0.length), (1, .int .i64 cents_1), (8, .int .i64 (1 : Int)), (9, .int .i64 (↑(0 : Nat) : Int))] []) :: (cs 3 ((.tr (.nl (.t 10))) :: (.fcut 0 (.exit 2) [(10, .lst (fl e_i64 o13.1) o13.1.length), (11, .int .i64 o13.2)] [] [] [(0, .lst (fl Tapi_Discount.enc l_0) l_0.length), (1, .int .i64 cents_1), (8, .int .i64 o6), (10, .lst (fl e_i64 ([] : (List Int))) (([] : (List Int)).length)), (11, .int .i64 (0 : Int)), (12, .int .i64 (↑(1 : Nat) : Int))] []) :: (cs 5 []))))))))) [] (ps := ([((.lst (fl Tapi_Discount.enc l_0) l_0.length : AV) = .lst (fl Tapi_Discount.enc l_0) l_0.length), (Ret Try.prog G0 26 [.lst (fl Tapi_Discount.enc l_0) l_0.length] (.int .i64 r1) [])] ++ ([((!(r1 == (0 : Int))) = false)] ++ ([((decide (cents_1 < (0 : Int))) = false)] ++ [((decide (cents_1 > (1125899906842624 : Int))) = false), ((.lst (fl Tapi_Discount.enc l_0) l_0.length : AV) = .lst (fl Tapi_Discount.enc l_0) l_0.length), ((.int .i64 cents_1 : AV) = .int .i64 cents_1), ((.int .i64 1 : AV) = .int .i64 (1 : Int)), ((.int .i64 0 : AV) = .int .i64 (↑(0 : Nat) : Int)), (Does Try.prog G0 0 (.loop (bodyAt Try.prog 11 [1, 1, 1, 1, 1, 0, 1, 0, 0])) (S 83 [(0, .lst (fl Tapi_Discount.enc l_0) l_0.length), (1, .int .i64 cents_1), (8, .int .i64 (1 : Int)), (9, .int .i64 (↑(0 : Nat) : Int))] []) (.exit 0) (S 83 [(0, .lst (fl Tapi_Discount.enc l_0) l_0.length), (1, .int .i64 cents_1), (8, .int .i64 o6)] [])), ((.lst (fl Tapi_Discount.enc l_0) l_0.length : AV) = .lst (fl Tapi_Discount.enc l_0) l_0.length), ((.int .i64 cents_1 : AV) = .int .i64 cents_1), ((.int .i64 o6 : AV) = .int .i64 o6), ((.lst [] 0 : AV) = .lst (fl e_i64 ([] : (List Int))) (([] : (List Int)).length)), ((.int .i64 0 : AV) = .int .i64 (0 : Int)), ((.int .i64 1 : AV) = .int .i64 (↑(1 : Nat) : Int)), (Does Try.prog G0 0 (.loop (bodyAt Try.prog 11 [1, 1, 1, 1, 1, 1, 1, 1, 0, 1, 0, 0])) (S 83 [(0, .lst (fl Tapi_Discount.enc l_0) l_0.length), (1, .int .i64 cents_1), (8, .int .i64 o6), (10, .lst (fl e_i64 ([] : (List Int))) (([] : (List Int)).length)), (11, .int .i64 (0 : Int)), (12, .int .i64 (↑(1 : Nat) : Int))] []) (.exit 2) (S 83 [(10, .lst (fl e_i64 o13.1) o13.1.length), (11, .int .i64 o13.2)] []))])))) (by kernel_rfl) (by kernel_rfl) (allOk_append.2 ⟨⟨rfl, ok1 (tollwayref24_CheckAll_ret l_0 r1 h2)⟩, (allOk_append.2 ⟨(ok1 (not_f (beq_t c3))), (allOk_append.2 ⟨(ok1 (decide_eq_false c4)), ⟨(decide_eq_false c5), rfl, rfl, rfl, rfl, (tollwayref24_Best_L6_does l_0 cents_1 (s := ((1 : Int), (0 : Nat))) (r := o6) hl6), rfl, rfl, rfl, rfl, rfl, rfl, ok1 (tollwayref24_Best_L13_does l_0 cents_1 o6 (s := (([] : (List Int)), (0 : Int), (1 : Nat))) (r := o13) hl13)⟩⟩)⟩)⟩)
theorem tollwayref24_Best_3 (l_0 : (List Tapi_Discount)) (cents_1 : Int) (r1 : Int) (h2 : tollwayref24_CheckAll l_0 = some r1) (c3 : ¬ (r1 = (0 : Int))) : Ret Try.prog G0 11 [.lst (fl Tapi_Discount.enc l_0) l_0.length, .int .i64 cents_1] (.tup [.lst [] 0, .int .i64 0, .int .i64 r1]) [] :=
  Ret.of_view 400 ((tollwayref24_Best_h1 l_0 r1) ++ ((.br true) :: (cs 4 [.tr (.nl (.t 4))]))) [] (ps := ([((.lst (fl Tapi_Discount.enc l_0) l_0.length : AV) = .lst (fl Tapi_Discount.enc l_0) l_0.length), (Ret Try.prog G0 26 [.lst (fl Tapi_Discount.enc l_0) l_0.length] (.int .i64 r1) [])] ++ [((!(r1 == (0 : Int))) = true)])) (by kernel_rfl) (by kernel_rfl) (allOk_append.2 ⟨⟨rfl, ok1 (tollwayref24_CheckAll_ret l_0 r1 h2)⟩, (ok1 (not_t (beq_f c3)))⟩)
theorem tollwayref24_Best_ret (l_0 : (List Tapi_Discount)) (cents_1 : Int) (r : ((List Int) × Int × Int)) (h : tollwayref24_Best l_0 cents_1 = some r) : Ret Try.prog G0 11 [.lst (fl Tapi_Discount.enc l_0) l_0.length, .int .i64 cents_1] (.tup [.lst (fl e_i64 r.1) r.1.length, .int .i64 r.2.1, .int .i64 r.2.2]) [] := by
  unfold tollwayref24_Best at h
  obtain ⟨r1, h2, h⟩ := bind_some h
  rcases ite_some h with ⟨c3, h⟩ | ⟨c3, h⟩
  · rcases ite_some h with ⟨c4, h⟩ | ⟨c4, h⟩
    · simp only [Option.some.injEq] at h
      subst h
      exact tollwayref24_Best_0 l_0 cents_1 r1 h2 c3 c4
    · rcases ite_some h with ⟨c5, h⟩ | ⟨c5, h⟩
      · simp only [Option.some.injEq] at h
        subst h
        exact tollwayref24_Best_1 l_0 cents_1 r1 h2 c3 c4 c5
      · obtain ⟨o6, hl6, h⟩ := bind_some h
        obtain ⟨o13, hl13, h⟩ := bind_some h
        simp only [Option.some.injEq] at h
        subst h
        exact tollwayref24_Best_2 l_0 cents_1 r1 h2 c3 c4 c5 o6 hl6 o13 hl13
  · simp only [Option.some.injEq] at h
    subst h
    exact tollwayref24_Best_3 l_0 cents_1 r1 h2 c3
noncomputable def discount_Lines_L4_step (l_0 : (List Tapi_Discount)) (cents_1 : Int) (r1 : ((List Int) × Int × Int)) : (Int × Nat × (List Tapi_Line)) → Option ((Int × Nat × (List Tapi_Line)) ⊕ (List Tapi_Line))
  | (v9, k25, b1) =>
    if (↑k25 : Int) < (↑r1.1.length : Int) then
      (r1.1[k25]?).bind fun x18 =>
      if (0 : Int) ≤ x18 then
        (l_0[(Int.toNat x18)]?).bind fun x21 =>
        (discount_Amount x21 cents_1).bind fun r23 =>
        if InR .i64 (0 - (if v9 < r23 then v9 else r23)) then
          if b1.length + 1 ≤ 4294967296 then
            if InR .i64 (v9 - (if v9 < r23 then v9 else r23)) then
              if InR .i64 ((↑k25 : Int) + 1) then
                some (Sum.inl ((v9 - (if v9 < r23 then v9 else r23)), (k25 + 1), (b1 ++ [(⟨x21.Name, (0 - (if v9 < r23 then v9 else r23))⟩ : Tapi_Line)])))
              else none
            else none
          else none
        else none
      else none
    else
      some (Sum.inr b1)
def discount_Lines_L4_H (l_0 : (List Tapi_Discount)) (cents_1 : Int) (r1 : ((List Int) × Int × Int)) : (Int × Nat × (List Tapi_Line)) → St := fun (s : (Int × Nat × (List Tapi_Line))) => S 53 [(0, .lst (fl Tapi_Discount.enc l_0) l_0.length), (1, .int .i64 cents_1), (8, .vec 1 s.2.2.length 2), (9, .int .i64 s.1), (23, .vec 0 r1.1.length 1), (24, .int .i64 (↑r1.1.length : Int)), (25, .int .i64 (↑s.2.1 : Int))] [(bV (fl e_i64 r1.1) 3), (bV (fl Tapi_Line.enc s.2.2) 37)]
theorem discount_Lines_L4_0 (l_0 : (List Tapi_Discount)) (cents_1 : Int) (r1 : ((List Int) × Int × Int)) (v9 : Int) (k25 : Nat) (b1 : (List Tapi_Line)) (c17 : (↑k25 : Int) < (↑r1.1.length : Int)) (x18 : Int) (h19 : r1.1[k25]? = some x18) (h20 : (0 : Int) ≤ x18) (x21 : Tapi_Discount) (h22 : l_0[(Int.toNat x18)]? = some x21) (r23 : Int) (h24 : discount_Amount x21 cents_1 = some r23) (h25 : InR .i64 (0 - (if v9 < r23 then v9 else r23))) (h26 : b1.length + 1 ≤ 4294967296) (h27 : InR .i64 (v9 - (if v9 < r23 then v9 else r23))) (h28 : InR .i64 ((↑k25 : Int) + 1)) : Does Try.prog G0 1 (bodyAt Try.prog 14 [1, 1, 1, 1, 1, 0, 1, 0, 0]) (discount_Lines_L4_H l_0 cents_1 r1 (v9, k25, b1)) .normal (S 53 [(0, .lst (fl Tapi_Discount.enc l_0) l_0.length), (1, .int .i64 cents_1), (8, .vec 1 ((b1 ++ [(⟨x21.Name, (0 - (if v9 < r23 then v9 else r23))⟩ : Tapi_Line)]).length) 2), (9, .int .i64 (v9 - (if v9 < r23 then v9 else r23))), (23, .vec 0 r1.1.length 1), (24, .int .i64 (↑r1.1.length : Int)), (25, .int .i64 ((↑k25 : Int) + 1))] [(bV (fl e_i64 r1.1) 3), (bV (fl Tapi_Line.enc (b1 ++ [(⟨x21.Name, (0 - (if v9 < r23 then v9 else r23))⟩ : Tapi_Line)])) 37)]) :=
  Does.of_viewM 1 400 ((.op none .a) :: (.br true) :: (.op none (.i k25)) :: (.op none (.v [.int .i64 x18])) :: (cs 3 ((.op none (.i (Int.toNat x18))) :: (.op none (.v [.str x21.Name, .int .i64 x21.Kind, .int .i64 x21.Amount, .str x21.Group, .str x21.System, .int .i64 x21.Class, .int .i64 x21.Window.Days, .int .i64 x21.Window.From, .int .i64 x21.Window.To, .int .i64 x21.Least])) :: (.op none .c) :: (.ret none [.agg (Tapi_Discount.enc x21), .int .i64 cents_1] (.int .i64 r23) []) :: (.op none .c) :: (.op none .a) :: (cs 4 ((.op none (.i (Int.toNat x18))) :: (.op none .c) :: (.op none (.v [.str x21.Name])) :: (.op none .c) :: (.op none .w) :: (cs 2 ((.op none (.ap 4)) :: (.tr (.eqc 3 (fl Tapi_Line.enc (b1 ++ [(⟨x21.Name, (0 - (if v9 < r23 then v9 else r23))⟩ : Tapi_Line)])))) :: (.tr (.eqt (.t 47) (.vec 3 ((b1 ++ [(⟨x21.Name, (0 - (if v9 < r23 then v9 else r23))⟩ : Tapi_Line)]).length) 2))) :: (cs 3 [.op none .w, .op none .c, .op none .w, .op none .c])))))))) [0, 3] (ps := [((decide ((↑k25 : Int) < (↑r1.1.length : Int))) = true), ((↑k25 : Int) = ((k25 : Nat) : Int) ∧ k25 < r1.1.length), (sub (fl e_i64 r1.1) k25 1 = [.int .i64 x18]), (x18 = (((Int.toNat x18) : Nat) : Int) ∧ (Int.toNat x18) < l_0.length), ((fl Tapi_Discount.enc l_0) ≠ []), (sub (fl Tapi_Discount.enc l_0) ((Int.toNat x18) * 10) 10 = [.str x21.Name, .int .i64 x21.Kind, .int .i64 x21.Amount, .str x21.Group, .str x21.System, .int .i64 x21.Class, .int .i64 x21.Window.Days, .int .i64 x21.Window.From, .int .i64 x21.Window.To, .int .i64 x21.Least]), ((.agg (Tapi_Discount.enc x21) : AV) = .agg (Tapi_Discount.enc x21)), ((.int .i64 cents_1 : AV) = .int .i64 cents_1), (Ret Try.prog G0 16 [.agg (Tapi_Discount.enc x21), .int .i64 cents_1] (.int .i64 r23) []), (x18 = (((Int.toNat x18) : Nat) : Int) ∧ (Int.toNat x18) < l_0.length), ((fl Tapi_Discount.enc l_0) ≠ []), (sub (fl Tapi_Discount.enc l_0) ((Int.toNat x18) * 10) 1 = [.str x21.Name]), (IntKind.min .i64 ≤ (0 - (if v9 < r23 then v9 else r23)) ∧ (0 - (if v9 < r23 then v9 else r23)) ≤ IntKind.max .i64), (0 + 2 ≤ List.length ([.str x21.Name, .int .i64 (0 - (if v9 < r23 then v9 else r23))] : List AV)), (List.length ((fl Tapi_Line.enc b1) : List AV) = (b1.length * 2)), (List.all ([.str x21.Name, .int .i64 (0 - (if v9 < r23 then v9 else r23))] : List AV) AV.one = true), (b1.length + 1 ≤ 4294967296), ((fl Tapi_Line.enc b1) ++ [.str x21.Name, .int .i64 (0 - (if v9 < r23 then v9 else r23))] = (fl Tapi_Line.enc (b1 ++ [(⟨x21.Name, (0 - (if v9 < r23 then v9 else r23))⟩ : Tapi_Line)]))), ((.vec 3 (b1.length + 1) 2 : AV) = .vec 3 ((b1 ++ [(⟨x21.Name, (0 - (if v9 < r23 then v9 else r23))⟩ : Tapi_Line)]).length) 2), (IntKind.min .i64 ≤ (v9 - (if v9 < r23 then v9 else r23)) ∧ (v9 - (if v9 < r23 then v9 else r23)) ≤ IntKind.max .i64), (IntKind.min .i64 ≤ ((↑k25 : Int) + 1) ∧ ((↑k25 : Int) + 1) ≤ IntKind.max .i64)]) (by kernel_rfl) (by kernel_rfl) ⟨(decide_eq_true c17), ⟨rfl, get_lt h19⟩, (fl_sub1 (f := e_i64) (fun _ => rfl) h19 rfl), ⟨(Int.toNat_of_nonneg h20).symm, get_lt h22⟩, (fl_ne (f := Tapi_Discount.enc) (z := 9) (fun _ => rfl) h22), (fl_sub0 (f := Tapi_Discount.enc) (z := 10) (j := (Int.toNat x18)) (fun _ => rfl) h22 rfl), rfl, rfl, (discount_Amount_ret x21 cents_1 r23 h24), ⟨(Int.toNat_of_nonneg h20).symm, get_lt h22⟩, (fl_ne (f := Tapi_Discount.enc) (z := 9) (fun _ => rfl) h22), (fl_sub (f := Tapi_Discount.enc) (z := 10) (j := (Int.toNat x18)) (a := 0) (n := 1) (fun _ => rfl) h22 (by decide) rfl), h25, (Nat.le_of_ble_eq_true rfl), (fl_length (f := Tapi_Line.enc) (z := 2) (fun _ => rfl) _), rfl, h26, (fl_snoc rfl), (by simp <;> omega), h27, ok1 h28⟩
theorem discount_Lines_L4_1 (l_0 : (List Tapi_Discount)) (cents_1 : Int) (r1 : ((List Int) × Int × Int)) (v9 : Int) (k25 : Nat) (b1 : (List Tapi_Line)) (c17 : ¬ ((↑k25 : Int) < (↑r1.1.length : Int))) : Does Try.prog G0 1 (bodyAt Try.prog 14 [1, 1, 1, 1, 1, 0, 1, 0, 0]) (discount_Lines_L4_H l_0 cents_1 r1 (v9, k25, b1)) (.exit 0) (S 53 [(8, .vec 1 b1.length 2)] [(bV (fl e_i64 r1.1) 3), (bV (fl Tapi_Line.enc b1) 37)]) :=
  Does.of_viewM 1 400 [.op none .a, .br false] [0, 1] (ps := [((decide ((↑k25 : Int) < (↑r1.1.length : Int))) = false)]) (by kernel_rfl) (by kernel_rfl) (ok1 (decide_eq_false c17))
def discount_Lines_L4_X (l_0 : (List Tapi_Discount)) (cents_1 : Int) (r1 : ((List Int) × Int × Int)) : (List Tapi_Line) → AEx := fun o => (.exit 0)
def discount_Lines_L4_E (l_0 : (List Tapi_Discount)) (cents_1 : Int) (r1 : ((List Int) × Int × Int)) : (List Tapi_Line) → St := fun o => S 53 [(8, .vec 1 o.length 2)] [(bV (fl e_i64 r1.1) 3), (bV (fl Tapi_Line.enc o) 37)]
theorem discount_Lines_L4_does (l_0 : (List Tapi_Discount)) (cents_1 : Int) (r1 : ((List Int) × Int × Int)) {s : (Int × Nat × (List Tapi_Line))} {r : (List Tapi_Line)} (h : lp (discount_Lines_L4_step l_0 cents_1 r1) s = some r) : Does Try.prog G0 1 (.loop (bodyAt Try.prog 14 [1, 1, 1, 1, 1, 0, 1, 0, 0])) (discount_Lines_L4_H l_0 cents_1 r1 s) (discount_Lines_L4_X l_0 cents_1 r1 r) (discount_Lines_L4_E l_0 cents_1 r1 r) := by
  refine Does.lp (H := discount_Lines_L4_H l_0 cents_1 r1) (X := discount_Lines_L4_X l_0 cents_1 r1) (E := discount_Lines_L4_E l_0 cents_1 r1) (fun s s2 h => ?_) (fun s r h => ?_) h
  · obtain ⟨v9, k25, b1⟩ := s
    unfold discount_Lines_L4_step at h
    try dsimp only at h
    rcases ite_some h with ⟨c17, h⟩ | ⟨c17, h⟩
    · obtain ⟨x18, h19, h⟩ := bind_some h
      obtain ⟨h20, h⟩ := guard_some h
      obtain ⟨x21, h22, h⟩ := bind_some h
      obtain ⟨r23, h24, h⟩ := bind_some h
      obtain ⟨h25, h⟩ := guard_some h
      obtain ⟨h26, h⟩ := guard_some h
      obtain ⟨h27, h⟩ := guard_some h
      obtain ⟨h28, h⟩ := guard_some h
      simp only [Option.some.injEq, Sum.inl.injEq] at h
      subst h
      have hq := discount_Lines_L4_0 l_0 cents_1 r1 v9 k25 b1 c17 x18 h19 h20 x21 h22 r23 h24 h25 h26 h27 h28
      first | exact hq | exact Eq.mp (by simp only [discount_Lines_L4_H, List.length_set] <;> rfl) hq
    · simp at h
  · obtain ⟨v9, k25, b1⟩ := s
    unfold discount_Lines_L4_step at h
    try dsimp only at h
    rcases ite_some h with ⟨c17, h⟩ | ⟨c17, h⟩
    · obtain ⟨x18, h19, h⟩ := bind_some h
      obtain ⟨h20, h⟩ := guard_some h
      obtain ⟨x21, h22, h⟩ := bind_some h
      obtain ⟨r23, h24, h⟩ := bind_some h
      obtain ⟨h25, h⟩ := guard_some h
      obtain ⟨h26, h⟩ := guard_some h
      obtain ⟨h27, h⟩ := guard_some h
      obtain ⟨h28, h⟩ := guard_some h
      simp at h
    · simp only [Option.some.injEq, Sum.inr.injEq] at h
      subst h
      exact ⟨discount_Lines_L4_1 l_0 cents_1 r1 v9 k25 b1 c17, by intro q; cases q⟩
noncomputable def discount_Lines (l_0 : (List Tapi_Discount)) (cents_1 : Int) : Option (List Tapi_Line) :=
  (discount_Best l_0 cents_1).bind fun r1 =>
  if r1.2.2 = (0 : Int) then
    (lp (discount_Lines_L4_step l_0 cents_1 r1) (cents_1, (0 : Nat), ([] : (List Tapi_Line)))).bind fun o4 =>
    some o4
  else
    some ([] : List Tapi_Line)
def discount_Lines_h1 (l_0 : (List Tapi_Discount)) (cents_1 : Int) (r1 : ((List Int) × Int × Int)) : List CH := (cs 3 ((.ret none [.lst (fl Tapi_Discount.enc l_0) l_0.length, .int .i64 cents_1] (.tup [.vec 0 r1.1.length 1, .int .i64 r1.2.1, .int .i64 r1.2.2]) [(bV (fl e_i64 r1.1) 3)]) :: (cs 8 [.op none .a])))
def discount_Lines_p2 (l_0 : (List Tapi_Discount)) (cents_1 : Int) (r1 : ((List Int) × Int × Int)) : List Prop := [((.lst (fl Tapi_Discount.enc l_0) l_0.length : AV) = .lst (fl Tapi_Discount.enc l_0) l_0.length), ((.int .i64 cents_1 : AV) = .int .i64 cents_1), (Ret Try.prog G0 10 [.lst (fl Tapi_Discount.enc l_0) l_0.length, .int .i64 cents_1] (.tup [.vec 0 r1.1.length 1, .int .i64 r1.2.1, .int .i64 r1.2.2]) [(bV (fl e_i64 r1.1) 3)])]
theorem discount_Lines_p2q (l_0 : (List Tapi_Discount)) (cents_1 : Int) (r1 : ((List Int) × Int × Int)) (h2 : discount_Best l_0 cents_1 = some r1) : allOk (discount_Lines_p2 l_0 cents_1 r1) := ⟨rfl, rfl, ok1 (discount_Best_ret l_0 cents_1 r1 h2)⟩
theorem discount_Lines_0 (l_0 : (List Tapi_Discount)) (cents_1 : Int) (r1 : ((List Int) × Int × Int)) (h2 : discount_Best l_0 cents_1 = some r1) (c3 : r1.2.2 = (0 : Int)) (o4 : (List Tapi_Line)) (hl4 : lp (discount_Lines_L4_step l_0 cents_1 r1) (cents_1, (0 : Nat), ([] : (List Tapi_Line))) = some o4) : Ret Try.prog G0 14 [.lst (fl Tapi_Discount.enc l_0) l_0.length, .int .i64 cents_1] (.vec 0 o4.length 2) [(bV (fl Tapi_Line.enc o4) 37)] :=
  Ret.of_view 400 ((discount_Lines_h1 l_0 cents_1 r1) ++ ((.br false) :: (cs 6 ((.tr (.vec (.t 8) 2 37)) :: (.fcut 1 (.exit 0) [(8, .vec 1 o4.length 2)] [(bV (fl e_i64 r1.1) 3), (bV (fl Tapi_Line.enc o4) 37)] [0, 1] [(0, .lst (fl Tapi_Discount.enc l_0) l_0.length), (1, .int .i64 cents_1), (8, .vec 1 (([] : (List Tapi_Line)).length) 2), (9, .int .i64 cents_1), (23, .vec 0 r1.1.length 1), (24, .int .i64 (↑r1.1.length : Int)), (25, .int .i64 (↑(0 : Nat) : Int))] [(bV (fl e_i64 r1.1) 3), (bV (fl Tapi_Line.enc ([] : (List Tapi_Line))) 37)]) :: (cs 2 []))))) [3] (ps := ((discount_Lines_p2 l_0 cents_1 r1) ++ [((!(r1.2.2 == (0 : Int))) = false), ((.lst (fl Tapi_Discount.enc l_0) l_0.length : AV) = .lst (fl Tapi_Discount.enc l_0) l_0.length), ((.int .i64 cents_1 : AV) = .int .i64 cents_1), ((.vec 1 0 2 : AV) = .vec 1 (([] : (List Tapi_Line)).length) 2), ((.int .i64 cents_1 : AV) = .int .i64 cents_1), ((.vec 0 r1.1.length 1 : AV) = .vec 0 r1.1.length 1), ((.int .i64 (↑r1.1.length : Int) : AV) = .int .i64 (↑r1.1.length : Int)), ((.int .i64 0 : AV) = .int .i64 (↑(0 : Nat) : Int)), (((bV (fl e_i64 r1.1) 3) : Blk) = renB [0, 1] (bV (fl e_i64 r1.1) 3)), (((bV [] 37) : Blk) = renB [0, 1] (bV (fl Tapi_Line.enc ([] : (List Tapi_Line))) 37)), (Does Try.prog G0 1 (.loop (bodyAt Try.prog 14 [1, 1, 1, 1, 1, 0, 1, 0, 0])) (S 53 [(0, .lst (fl Tapi_Discount.enc l_0) l_0.length), (1, .int .i64 cents_1), (8, .vec 1 (([] : (List Tapi_Line)).length) 2), (9, .int .i64 cents_1), (23, .vec 0 r1.1.length 1), (24, .int .i64 (↑r1.1.length : Int)), (25, .int .i64 (↑(0 : Nat) : Int))] [(bV (fl e_i64 r1.1) 3), (bV (fl Tapi_Line.enc ([] : (List Tapi_Line))) 37)]) (.exit 0) (S 53 [(8, .vec 1 o4.length 2)] [(bV (fl e_i64 r1.1) 3), (bV (fl Tapi_Line.enc o4) 37)]))])) (by kernel_rfl) (by kernel_rfl) (allOk_append.2 ⟨(discount_Lines_p2q l_0 cents_1 r1 h2), ⟨(not_f (beq_t c3)), rfl, rfl, (by first | rfl | simp only [List.length_replicate, List.length_set]), rfl, rfl, rfl, rfl, rfl, rfl, ok1 (discount_Lines_L4_does l_0 cents_1 r1 (s := (cents_1, (0 : Nat), ([] : (List Tapi_Line)))) (r := o4) hl4)⟩⟩)
theorem discount_Lines_1 (l_0 : (List Tapi_Discount)) (cents_1 : Int) (r1 : ((List Int) × Int × Int)) (h2 : discount_Best l_0 cents_1 = some r1) (c3 : ¬ (r1.2.2 = (0 : Int))) : Ret Try.prog G0 14 [.lst (fl Tapi_Discount.enc l_0) l_0.length, .int .i64 cents_1] (.vec 0 (([] : List Tapi_Line).length) 2) [(bV (fl Tapi_Line.enc ([] : List Tapi_Line)) 37)] :=
  Ret.of_view 400 ((discount_Lines_h1 l_0 cents_1 r1) ++ [.br true, .op none .c, .tr (.vec (.t 4) 2 37), .tr (.eqc 1 (fl Tapi_Line.enc ([] : List Tapi_Line))), .tr (.eqt (.t 4) (.vec 1 (([] : List Tapi_Line).length) 2))]) [1] (ps := ((discount_Lines_p2 l_0 cents_1 r1) ++ [((!(r1.2.2 == (0 : Int))) = true), ([] = (fl Tapi_Line.enc ([] : List Tapi_Line))), ((.vec 1 0 2 : AV) = .vec 1 (([] : List Tapi_Line).length) 2)])) (by kernel_rfl) (by kernel_rfl) (allOk_append.2 ⟨(discount_Lines_p2q l_0 cents_1 r1 h2), ⟨(not_t (beq_f c3)), rfl, ok1 rfl⟩⟩)
theorem discount_Lines_ret (l_0 : (List Tapi_Discount)) (cents_1 : Int) (r : (List Tapi_Line)) (h : discount_Lines l_0 cents_1 = some r) : Ret Try.prog G0 14 [.lst (fl Tapi_Discount.enc l_0) l_0.length, .int .i64 cents_1] (.vec 0 r.length 2) [(bV (fl Tapi_Line.enc r) 37)] := by
  unfold discount_Lines at h
  obtain ⟨r1, h2, h⟩ := bind_some h
  rcases ite_some h with ⟨c3, h⟩ | ⟨c3, h⟩
  · obtain ⟨o4, hl4, h⟩ := bind_some h
    simp only [Option.some.injEq] at h
    subst h
    exact discount_Lines_0 l_0 cents_1 r1 h2 c3 o4 hl4
  · simp only [Option.some.injEq] at h
    subst h
    exact discount_Lines_1 l_0 cents_1 r1 h2 c3
noncomputable def tollwayref24_Lines_L4_step (l_0 : (List Tapi_Discount)) (cents_1 : Int) (r1 : ((List Int) × Int × Int)) : (Int × Nat × (List Tapi_Line)) → Option ((Int × Nat × (List Tapi_Line)) ⊕ (List Tapi_Line))
  | (v9, k10, b0) =>
    if (↑k10 : Int) < (↑r1.1.length : Int) then
      (r1.1[k10]?).bind fun x23 =>
      if (0 : Int) ≤ x23 then
        (l_0[(Int.toNat x23)]?).bind fun x26 =>
        (tollwayref24_Amount x26 cents_1).bind fun r28 =>
        if r28 > v9 then
          if InR .i64 (v9 - v9) then
            if InR .i64 (0 - v9) then
              if b0.length + 1 ≤ 4294967296 then
                if InR .i64 ((↑k10 : Int) + 1) then
                  some (Sum.inl ((v9 - v9), (k10 + 1), (b0 ++ [(⟨x26.Name, (0 - v9)⟩ : Tapi_Line)])))
                else none
              else none
            else none
          else none
        else
          if InR .i64 (v9 - r28) then
            if InR .i64 (0 - r28) then
              if b0.length + 1 ≤ 4294967296 then
                if InR .i64 ((↑k10 : Int) + 1) then
                  some (Sum.inl ((v9 - r28), (k10 + 1), (b0 ++ [(⟨x26.Name, (0 - r28)⟩ : Tapi_Line)])))
                else none
              else none
            else none
          else none
      else none
    else
      some (Sum.inr b0)
def tollwayref24_Lines_L4_H (l_0 : (List Tapi_Discount)) (cents_1 : Int) (r1 : ((List Int) × Int × Int)) : (Int × Nat × (List Tapi_Line)) → St := fun (s : (Int × Nat × (List Tapi_Line))) => S 59 [(0, .lst (fl Tapi_Discount.enc l_0) l_0.length), (1, .int .i64 cents_1), (5, .lst (fl e_i64 r1.1) r1.1.length), (8, .vec 0 s.2.2.length 2), (9, .int .i64 s.1), (10, .int .i64 (↑s.2.1 : Int))] [(bV (fl Tapi_Line.enc s.2.2) 37)]
theorem tollwayref24_Lines_L4_0 (l_0 : (List Tapi_Discount)) (cents_1 : Int) (r1 : ((List Int) × Int × Int)) (v9 : Int) (k10 : Nat) (b0 : (List Tapi_Line)) (c22 : (↑k10 : Int) < (↑r1.1.length : Int)) (x23 : Int) (h24 : r1.1[k10]? = some x23) (h25 : (0 : Int) ≤ x23) (x26 : Tapi_Discount) (h27 : l_0[(Int.toNat x23)]? = some x26) (r28 : Int) (h29 : tollwayref24_Amount x26 cents_1 = some r28) (c30 : r28 > v9) (h31 : InR .i64 (v9 - v9)) (h32 : InR .i64 (0 - v9)) (h33 : b0.length + 1 ≤ 4294967296) (h34 : InR .i64 ((↑k10 : Int) + 1)) : Does Try.prog G0 0 (bodyAt Try.prog 15 [1, 1, 1, 1, 1, 0, 1, 0, 0]) (tollwayref24_Lines_L4_H l_0 cents_1 r1 (v9, k10, b0)) .normal (S 59 [(0, .lst (fl Tapi_Discount.enc l_0) l_0.length), (1, .int .i64 cents_1), (5, .lst (fl e_i64 r1.1) r1.1.length), (8, .vec 0 ((b0 ++ [(⟨x26.Name, (0 - v9)⟩ : Tapi_Line)]).length) 2), (9, .int .i64 (v9 - v9)), (10, .int .i64 ((↑k10 : Int) + 1))] [(bV (fl Tapi_Line.enc (b0 ++ [(⟨x26.Name, (0 - v9)⟩ : Tapi_Line)])) 37)]) :=
  Does.of_viewM 0 400 (cs 3 ((.op none .a) :: (.br true) :: (cs 3 ((.op none (.i k10)) :: (.op none (.v [.int .i64 x23])) :: (.op none (.i (Int.toNat x23))) :: (.op none (.v [.str x26.Name, .int .i64 x26.Kind, .int .i64 x26.Amount, .str x26.Group, .str x26.System, .int .i64 x26.Class, .int .i64 x26.Window.Days, .int .i64 x26.Window.From, .int .i64 x26.Window.To, .int .i64 x26.Least])) :: (.op none .c) :: (.ret none [.agg (Tapi_Discount.enc x26), .int .i64 cents_1] (.int .i64 r28) []) :: (cs 3 ((.op none .a) :: (.br true) :: (cs 4 ((.op none .w) :: (cs 5 ((.op none (.i k10)) :: (.op none (.v [.int .i64 x23])) :: (.op none (.i (Int.toNat x23))) :: (.op none .c) :: (.op none (.v [.str x26.Name])) :: (.op none .c) :: (.op none .w) :: (cs 2 ((.op none (.ap 4)) :: (.tr (.eqc 2 (fl Tapi_Line.enc (b0 ++ [(⟨x26.Name, (0 - v9)⟩ : Tapi_Line)])))) :: (.tr (.eqt (.t 57) (.vec 2 ((b0 ++ [(⟨x26.Name, (0 - v9)⟩ : Tapi_Line)]).length) 2))) :: (cs 2 [.op none .w, .op none .c]))))))))))))) [2] (ps := [((decide ((↑k10 : Int) < (↑r1.1.length : Int))) = true), ((↑k10 : Int) = ((k10 : Nat) : Int) ∧ k10 < r1.1.length), ((fl e_i64 r1.1) ≠ []), (sub (fl e_i64 r1.1) k10 1 = [.int .i64 x23]), (x23 = (((Int.toNat x23) : Nat) : Int) ∧ (Int.toNat x23) < l_0.length), ((fl Tapi_Discount.enc l_0) ≠ []), (sub (fl Tapi_Discount.enc l_0) ((Int.toNat x23) * 10) 10 = [.str x26.Name, .int .i64 x26.Kind, .int .i64 x26.Amount, .str x26.Group, .str x26.System, .int .i64 x26.Class, .int .i64 x26.Window.Days, .int .i64 x26.Window.From, .int .i64 x26.Window.To, .int .i64 x26.Least]), ((.agg (Tapi_Discount.enc x26) : AV) = .agg (Tapi_Discount.enc x26)), ((.int .i64 cents_1 : AV) = .int .i64 cents_1), (Ret Try.prog G0 30 [.agg (Tapi_Discount.enc x26), .int .i64 cents_1] (.int .i64 r28) []), ((decide (r28 > v9)) = true), (IntKind.min .i64 ≤ (v9 - v9) ∧ (v9 - v9) ≤ IntKind.max .i64), ((↑k10 : Int) = ((k10 : Nat) : Int) ∧ k10 < r1.1.length), ((fl e_i64 r1.1) ≠ []), (sub (fl e_i64 r1.1) k10 1 = [.int .i64 x23]), (x23 = (((Int.toNat x23) : Nat) : Int) ∧ (Int.toNat x23) < l_0.length), ((fl Tapi_Discount.enc l_0) ≠ []), (sub (fl Tapi_Discount.enc l_0) ((Int.toNat x23) * 10) 1 = [.str x26.Name]), (IntKind.min .i64 ≤ (0 - v9) ∧ (0 - v9) ≤ IntKind.max .i64), (0 + 2 ≤ List.length ([.str x26.Name, .int .i64 (0 - v9)] : List AV)), (List.length ((fl Tapi_Line.enc b0) : List AV) = (b0.length * 2)), (List.all ([.str x26.Name, .int .i64 (0 - v9)] : List AV) AV.one = true), (b0.length + 1 ≤ 4294967296), ((fl Tapi_Line.enc b0) ++ [.str x26.Name, .int .i64 (0 - v9)] = (fl Tapi_Line.enc (b0 ++ [(⟨x26.Name, (0 - v9)⟩ : Tapi_Line)]))), ((.vec 2 (b0.length + 1) 2 : AV) = .vec 2 ((b0 ++ [(⟨x26.Name, (0 - v9)⟩ : Tapi_Line)]).length) 2), (IntKind.min .i64 ≤ ((↑k10 : Int) + 1) ∧ ((↑k10 : Int) + 1) ≤ IntKind.max .i64)]) (by kernel_rfl) (by kernel_rfl) ⟨(decide_eq_true c22), ⟨rfl, get_lt h24⟩, (fl_ne (f := e_i64) (z := 0) (fun _ => rfl) h24), (fl_sub1 (f := e_i64) (fun _ => rfl) h24 rfl), ⟨(Int.toNat_of_nonneg h25).symm, get_lt h27⟩, (fl_ne (f := Tapi_Discount.enc) (z := 9) (fun _ => rfl) h27), (fl_sub0 (f := Tapi_Discount.enc) (z := 10) (j := (Int.toNat x23)) (fun _ => rfl) h27 rfl), rfl, rfl, (tollwayref24_Amount_ret x26 cents_1 r28 h29), (decide_eq_true c30), h31, ⟨rfl, get_lt h24⟩, (fl_ne (f := e_i64) (z := 0) (fun _ => rfl) h24), (fl_sub1 (f := e_i64) (fun _ => rfl) h24 rfl), ⟨(Int.toNat_of_nonneg h25).symm, get_lt h27⟩, (fl_ne (f := Tapi_Discount.enc) (z := 9) (fun _ => rfl) h27), (fl_sub (f := Tapi_Discount.enc) (z := 10) (j := (Int.toNat x23)) (a := 0) (n := 1) (fun _ => rfl) h27 (by decide) rfl), h32, (Nat.le_of_ble_eq_true rfl), (fl_length (f := Tapi_Line.enc) (z := 2) (fun _ => rfl) _), rfl, h33, (fl_snoc rfl), (by simp <;> omega), ok1 h34⟩
theorem tollwayref24_Lines_L4_1 (l_0 : (List Tapi_Discount)) (cents_1 : Int) (r1 : ((List Int) × Int × Int)) (v9 : Int) (k10 : Nat) (b0 : (List Tapi_Line)) (c22 : (↑k10 : Int) < (↑r1.1.length : Int)) (x23 : Int) (h24 : r1.1[k10]? = some x23) (h25 : (0 : Int) ≤ x23) (x26 : Tapi_Discount) (h27 : l_0[(Int.toNat x23)]? = some x26) (r28 : Int) (h29 : tollwayref24_Amount x26 cents_1 = some r28) (c30 : ¬ (r28 > v9)) (h35 : InR .i64 (v9 - r28)) (h36 : InR .i64 (0 - r28)) (h37 : b0.length + 1 ≤ 4294967296) (h38 : InR .i64 ((↑k10 : Int) + 1)) : Does Try.prog G0 0 (bodyAt Try.prog 15 [1, 1, 1, 1, 1, 0, 1, 0, 0]) (tollwayref24_Lines_L4_H l_0 cents_1 r1 (v9, k10, b0)) .normal (S 59 [(0, .lst (fl Tapi_Discount.enc l_0) l_0.length), (1, .int .i64 cents_1), (5, .lst (fl e_i64 r1.1) r1.1.length), (8, .vec 0 ((b0 ++ [(⟨x26.Name, (0 - r28)⟩ : Tapi_Line)]).length) 2), (9, .int .i64 (v9 - r28)), (10, .int .i64 ((↑k10 : Int) + 1))] [(bV (fl Tapi_Line.enc (b0 ++ [(⟨x26.Name, (0 - r28)⟩ : Tapi_Line)])) 37)]) :=
  Does.of_viewM 0 400 (cs 3 ((.op none .a) :: (.br true) :: (cs 3 ((.op none (.i k10)) :: (.op none (.v [.int .i64 x23])) :: (.op none (.i (Int.toNat x23))) :: (.op none (.v [.str x26.Name, .int .i64 x26.Kind, .int .i64 x26.Amount, .str x26.Group, .str x26.System, .int .i64 x26.Class, .int .i64 x26.Window.Days, .int .i64 x26.Window.From, .int .i64 x26.Window.To, .int .i64 x26.Least])) :: (.op none .c) :: (.ret none [.agg (Tapi_Discount.enc x26), .int .i64 cents_1] (.int .i64 r28) []) :: (cs 3 ((.op none .a) :: (.br false) :: (cs 2 ((.op none .w) :: (cs 5 ((.op none (.i k10)) :: (.op none (.v [.int .i64 x23])) :: (.op none (.i (Int.toNat x23))) :: (.op none .c) :: (.op none (.v [.str x26.Name])) :: (.op none .c) :: (.op none .w) :: (cs 2 ((.op none (.ap 4)) :: (.tr (.eqc 2 (fl Tapi_Line.enc (b0 ++ [(⟨x26.Name, (0 - r28)⟩ : Tapi_Line)])))) :: (.tr (.eqt (.t 57) (.vec 2 ((b0 ++ [(⟨x26.Name, (0 - r28)⟩ : Tapi_Line)]).length) 2))) :: (cs 2 [.op none .w, .op none .c]))))))))))))) [2] (ps := [((decide ((↑k10 : Int) < (↑r1.1.length : Int))) = true), ((↑k10 : Int) = ((k10 : Nat) : Int) ∧ k10 < r1.1.length), ((fl e_i64 r1.1) ≠ []), (sub (fl e_i64 r1.1) k10 1 = [.int .i64 x23]), (x23 = (((Int.toNat x23) : Nat) : Int) ∧ (Int.toNat x23) < l_0.length), ((fl Tapi_Discount.enc l_0) ≠ []), (sub (fl Tapi_Discount.enc l_0) ((Int.toNat x23) * 10) 10 = [.str x26.Name, .int .i64 x26.Kind, .int .i64 x26.Amount, .str x26.Group, .str x26.System, .int .i64 x26.Class, .int .i64 x26.Window.Days, .int .i64 x26.Window.From, .int .i64 x26.Window.To, .int .i64 x26.Least]), ((.agg (Tapi_Discount.enc x26) : AV) = .agg (Tapi_Discount.enc x26)), ((.int .i64 cents_1 : AV) = .int .i64 cents_1), (Ret Try.prog G0 30 [.agg (Tapi_Discount.enc x26), .int .i64 cents_1] (.int .i64 r28) []), ((decide (r28 > v9)) = false), (IntKind.min .i64 ≤ (v9 - r28) ∧ (v9 - r28) ≤ IntKind.max .i64), ((↑k10 : Int) = ((k10 : Nat) : Int) ∧ k10 < r1.1.length), ((fl e_i64 r1.1) ≠ []), (sub (fl e_i64 r1.1) k10 1 = [.int .i64 x23]), (x23 = (((Int.toNat x23) : Nat) : Int) ∧ (Int.toNat x23) < l_0.length), ((fl Tapi_Discount.enc l_0) ≠ []), (sub (fl Tapi_Discount.enc l_0) ((Int.toNat x23) * 10) 1 = [.str x26.Name]), (IntKind.min .i64 ≤ (0 - r28) ∧ (0 - r28) ≤ IntKind.max .i64), (0 + 2 ≤ List.length ([.str x26.Name, .int .i64 (0 - r28)] : List AV)), (List.length ((fl Tapi_Line.enc b0) : List AV) = (b0.length * 2)), (List.all ([.str x26.Name, .int .i64 (0 - r28)] : List AV) AV.one = true), (b0.length + 1 ≤ 4294967296), ((fl Tapi_Line.enc b0) ++ [.str x26.Name, .int .i64 (0 - r28)] = (fl Tapi_Line.enc (b0 ++ [(⟨x26.Name, (0 - r28)⟩ : Tapi_Line)]))), ((.vec 2 (b0.length + 1) 2 : AV) = .vec 2 ((b0 ++ [(⟨x26.Name, (0 - r28)⟩ : Tapi_Line)]).length) 2), (IntKind.min .i64 ≤ ((↑k10 : Int) + 1) ∧ ((↑k10 : Int) + 1) ≤ IntKind.max .i64)]) (by kernel_rfl) (by kernel_rfl) ⟨(decide_eq_true c22), ⟨rfl, get_lt h24⟩, (fl_ne (f := e_i64) (z := 0) (fun _ => rfl) h24), (fl_sub1 (f := e_i64) (fun _ => rfl) h24 rfl), ⟨(Int.toNat_of_nonneg h25).symm, get_lt h27⟩, (fl_ne (f := Tapi_Discount.enc) (z := 9) (fun _ => rfl) h27), (fl_sub0 (f := Tapi_Discount.enc) (z := 10) (j := (Int.toNat x23)) (fun _ => rfl) h27 rfl), rfl, rfl, (tollwayref24_Amount_ret x26 cents_1 r28 h29), (decide_eq_false c30), h35, ⟨rfl, get_lt h24⟩, (fl_ne (f := e_i64) (z := 0) (fun _ => rfl) h24), (fl_sub1 (f := e_i64) (fun _ => rfl) h24 rfl), ⟨(Int.toNat_of_nonneg h25).symm, get_lt h27⟩, (fl_ne (f := Tapi_Discount.enc) (z := 9) (fun _ => rfl) h27), (fl_sub (f := Tapi_Discount.enc) (z := 10) (j := (Int.toNat x23)) (a := 0) (n := 1) (fun _ => rfl) h27 (by decide) rfl), h36, (Nat.le_of_ble_eq_true rfl), (fl_length (f := Tapi_Line.enc) (z := 2) (fun _ => rfl) _), rfl, h37, (fl_snoc rfl), (by simp <;> omega), ok1 h38⟩
theorem tollwayref24_Lines_L4_2 (l_0 : (List Tapi_Discount)) (cents_1 : Int) (r1 : ((List Int) × Int × Int)) (v9 : Int) (k10 : Nat) (b0 : (List Tapi_Line)) (c22 : ¬ ((↑k10 : Int) < (↑r1.1.length : Int))) : Does Try.prog G0 0 (bodyAt Try.prog 15 [1, 1, 1, 1, 1, 0, 1, 0, 0]) (tollwayref24_Lines_L4_H l_0 cents_1 r1 (v9, k10, b0)) (.exit 0) (S 59 [(8, .vec 0 b0.length 2)] [(bV (fl Tapi_Line.enc b0) 37)]) :=
  Does.of_viewM 0 400 (cs 3 [.op none .a, .br false]) [0] (ps := [((decide ((↑k10 : Int) < (↑r1.1.length : Int))) = false)]) (by kernel_rfl) (by kernel_rfl) (ok1 (decide_eq_false c22))
def tollwayref24_Lines_L4_X (l_0 : (List Tapi_Discount)) (cents_1 : Int) (r1 : ((List Int) × Int × Int)) : (List Tapi_Line) → AEx := fun o => (.exit 0)
def tollwayref24_Lines_L4_E (l_0 : (List Tapi_Discount)) (cents_1 : Int) (r1 : ((List Int) × Int × Int)) : (List Tapi_Line) → St := fun o => S 59 [(8, .vec 0 o.length 2)] [(bV (fl Tapi_Line.enc o) 37)]
theorem tollwayref24_Lines_L4_does (l_0 : (List Tapi_Discount)) (cents_1 : Int) (r1 : ((List Int) × Int × Int)) {s : (Int × Nat × (List Tapi_Line))} {r : (List Tapi_Line)} (h : lp (tollwayref24_Lines_L4_step l_0 cents_1 r1) s = some r) : Does Try.prog G0 0 (.loop (bodyAt Try.prog 15 [1, 1, 1, 1, 1, 0, 1, 0, 0])) (tollwayref24_Lines_L4_H l_0 cents_1 r1 s) (tollwayref24_Lines_L4_X l_0 cents_1 r1 r) (tollwayref24_Lines_L4_E l_0 cents_1 r1 r) := by
  refine Does.lp (H := tollwayref24_Lines_L4_H l_0 cents_1 r1) (X := tollwayref24_Lines_L4_X l_0 cents_1 r1) (E := tollwayref24_Lines_L4_E l_0 cents_1 r1) (fun s s2 h => ?_) (fun s r h => ?_) h
  · obtain ⟨v9, k10, b0⟩ := s
    unfold tollwayref24_Lines_L4_step at h
    try dsimp only at h
    rcases ite_some h with ⟨c22, h⟩ | ⟨c22, h⟩
    · obtain ⟨x23, h24, h⟩ := bind_some h
      obtain ⟨h25, h⟩ := guard_some h
      obtain ⟨x26, h27, h⟩ := bind_some h
      obtain ⟨r28, h29, h⟩ := bind_some h
      rcases ite_some h with ⟨c30, h⟩ | ⟨c30, h⟩
      · obtain ⟨h31, h⟩ := guard_some h
        obtain ⟨h32, h⟩ := guard_some h
        obtain ⟨h33, h⟩ := guard_some h
        obtain ⟨h34, h⟩ := guard_some h
        simp only [Option.some.injEq, Sum.inl.injEq] at h
        subst h
        have hq := tollwayref24_Lines_L4_0 l_0 cents_1 r1 v9 k10 b0 c22 x23 h24 h25 x26 h27 r28 h29 c30 h31 h32 h33 h34
        first | exact hq | exact Eq.mp (by simp only [tollwayref24_Lines_L4_H, List.length_set] <;> rfl) hq
      · obtain ⟨h35, h⟩ := guard_some h
        obtain ⟨h36, h⟩ := guard_some h
        obtain ⟨h37, h⟩ := guard_some h
        obtain ⟨h38, h⟩ := guard_some h
        simp only [Option.some.injEq, Sum.inl.injEq] at h
        subst h
        have hq := tollwayref24_Lines_L4_1 l_0 cents_1 r1 v9 k10 b0 c22 x23 h24 h25 x26 h27 r28 h29 c30 h35 h36 h37 h38
        first | exact hq | exact Eq.mp (by simp only [tollwayref24_Lines_L4_H, List.length_set] <;> rfl) hq
    · simp at h
  · obtain ⟨v9, k10, b0⟩ := s
    unfold tollwayref24_Lines_L4_step at h
    try dsimp only at h
    rcases ite_some h with ⟨c22, h⟩ | ⟨c22, h⟩
    · obtain ⟨x23, h24, h⟩ := bind_some h
      obtain ⟨h25, h⟩ := guard_some h
      obtain ⟨x26, h27, h⟩ := bind_some h
      obtain ⟨r28, h29, h⟩ := bind_some h
      rcases ite_some h with ⟨c30, h⟩ | ⟨c30, h⟩
      · obtain ⟨h31, h⟩ := guard_some h
        obtain ⟨h32, h⟩ := guard_some h
        obtain ⟨h33, h⟩ := guard_some h
        obtain ⟨h34, h⟩ := guard_some h
        simp at h
      · obtain ⟨h35, h⟩ := guard_some h
        obtain ⟨h36, h⟩ := guard_some h
        obtain ⟨h37, h⟩ := guard_some h
        obtain ⟨h38, h⟩ := guard_some h
        simp at h
    · simp only [Option.some.injEq, Sum.inr.injEq] at h
      subst h
      exact ⟨tollwayref24_Lines_L4_2 l_0 cents_1 r1 v9 k10 b0 c22, by intro q; cases q⟩
noncomputable def tollwayref24_Lines (l_0 : (List Tapi_Discount)) (cents_1 : Int) : Option (List Tapi_Line) :=
  (tollwayref24_Best l_0 cents_1).bind fun r1 =>
  if r1.2.2 = (0 : Int) then
    (lp (tollwayref24_Lines_L4_step l_0 cents_1 r1) (cents_1, (0 : Nat), ([] : (List Tapi_Line)))).bind fun o4 =>
    some o4
  else
    some ([] : List Tapi_Line)
def tollwayref24_Lines_h1 (l_0 : (List Tapi_Discount)) (cents_1 : Int) (r1 : ((List Int) × Int × Int)) : List CH := (cs 3 ((.ret none [.lst (fl Tapi_Discount.enc l_0) l_0.length, .int .i64 cents_1] (.tup [.lst (fl e_i64 r1.1) r1.1.length, .int .i64 r1.2.1, .int .i64 r1.2.2]) []) :: (cs 8 [.op none .a])))
def tollwayref24_Lines_p2 (l_0 : (List Tapi_Discount)) (cents_1 : Int) (r1 : ((List Int) × Int × Int)) : List Prop := [((.lst (fl Tapi_Discount.enc l_0) l_0.length : AV) = .lst (fl Tapi_Discount.enc l_0) l_0.length), ((.int .i64 cents_1 : AV) = .int .i64 cents_1), (Ret Try.prog G0 11 [.lst (fl Tapi_Discount.enc l_0) l_0.length, .int .i64 cents_1] (.tup [.lst (fl e_i64 r1.1) r1.1.length, .int .i64 r1.2.1, .int .i64 r1.2.2]) [])]
theorem tollwayref24_Lines_p2q (l_0 : (List Tapi_Discount)) (cents_1 : Int) (r1 : ((List Int) × Int × Int)) (h2 : tollwayref24_Best l_0 cents_1 = some r1) : allOk (tollwayref24_Lines_p2 l_0 cents_1 r1) := ⟨rfl, rfl, ok1 (tollwayref24_Best_ret l_0 cents_1 r1 h2)⟩
theorem tollwayref24_Lines_0 (l_0 : (List Tapi_Discount)) (cents_1 : Int) (r1 : ((List Int) × Int × Int)) (h2 : tollwayref24_Best l_0 cents_1 = some r1) (c3 : r1.2.2 = (0 : Int)) (o4 : (List Tapi_Line)) (hl4 : lp (tollwayref24_Lines_L4_step l_0 cents_1 r1) (cents_1, (0 : Nat), ([] : (List Tapi_Line))) = some o4) : Ret Try.prog G0 15 [.lst (fl Tapi_Discount.enc l_0) l_0.length, .int .i64 cents_1] (.vec 0 o4.length 2) [(bV (fl Tapi_Line.enc o4) 37)] :=
  Ret.of_view 400 ((tollwayref24_Lines_h1 l_0 cents_1 r1) ++ ((.br false) :: (cs 4 ((.tr (.vec (.t 8) 2 37)) :: (.fcut 0 (.exit 0) [(8, .vec 0 o4.length 2)] [(bV (fl Tapi_Line.enc o4) 37)] [0] [(0, .lst (fl Tapi_Discount.enc l_0) l_0.length), (1, .int .i64 cents_1), (5, .lst (fl e_i64 r1.1) r1.1.length), (8, .vec 0 (([] : (List Tapi_Line)).length) 2), (9, .int .i64 cents_1), (10, .int .i64 (↑(0 : Nat) : Int))] [(bV (fl Tapi_Line.enc ([] : (List Tapi_Line))) 37)]) :: (cs 2 []))))) [1] (ps := ((tollwayref24_Lines_p2 l_0 cents_1 r1) ++ [((!(r1.2.2 == (0 : Int))) = false), ((.lst (fl Tapi_Discount.enc l_0) l_0.length : AV) = .lst (fl Tapi_Discount.enc l_0) l_0.length), ((.int .i64 cents_1 : AV) = .int .i64 cents_1), ((.lst (fl e_i64 r1.1) r1.1.length : AV) = .lst (fl e_i64 r1.1) r1.1.length), ((.vec 0 0 2 : AV) = .vec 0 (([] : (List Tapi_Line)).length) 2), ((.int .i64 cents_1 : AV) = .int .i64 cents_1), ((.int .i64 0 : AV) = .int .i64 (↑(0 : Nat) : Int)), (((bV [] 37) : Blk) = renB [0] (bV (fl Tapi_Line.enc ([] : (List Tapi_Line))) 37)), (Does Try.prog G0 0 (.loop (bodyAt Try.prog 15 [1, 1, 1, 1, 1, 0, 1, 0, 0])) (S 59 [(0, .lst (fl Tapi_Discount.enc l_0) l_0.length), (1, .int .i64 cents_1), (5, .lst (fl e_i64 r1.1) r1.1.length), (8, .vec 0 (([] : (List Tapi_Line)).length) 2), (9, .int .i64 cents_1), (10, .int .i64 (↑(0 : Nat) : Int))] [(bV (fl Tapi_Line.enc ([] : (List Tapi_Line))) 37)]) (.exit 0) (S 59 [(8, .vec 0 o4.length 2)] [(bV (fl Tapi_Line.enc o4) 37)]))])) (by kernel_rfl) (by kernel_rfl) (allOk_append.2 ⟨(tollwayref24_Lines_p2q l_0 cents_1 r1 h2), ⟨(not_f (beq_t c3)), rfl, rfl, rfl, (by first | rfl | simp only [List.length_replicate, List.length_set]), rfl, rfl, rfl, ok1 (tollwayref24_Lines_L4_does l_0 cents_1 r1 (s := (cents_1, (0 : Nat), ([] : (List Tapi_Line)))) (r := o4) hl4)⟩⟩)
theorem tollwayref24_Lines_1 (l_0 : (List Tapi_Discount)) (cents_1 : Int) (r1 : ((List Int) × Int × Int)) (h2 : tollwayref24_Best l_0 cents_1 = some r1) (c3 : ¬ (r1.2.2 = (0 : Int))) : Ret Try.prog G0 15 [.lst (fl Tapi_Discount.enc l_0) l_0.length, .int .i64 cents_1] (.vec 0 (([] : List Tapi_Line).length) 2) [(bV (fl Tapi_Line.enc ([] : List Tapi_Line)) 37)] :=
  Ret.of_view 400 ((tollwayref24_Lines_h1 l_0 cents_1 r1) ++ [.br true, .op none .c, .tr (.vec (.t 4) 2 37), .tr (.eqc 0 (fl Tapi_Line.enc ([] : List Tapi_Line))), .tr (.eqt (.t 4) (.vec 0 (([] : List Tapi_Line).length) 2))]) [0] (ps := ((tollwayref24_Lines_p2 l_0 cents_1 r1) ++ [((!(r1.2.2 == (0 : Int))) = true), ([] = (fl Tapi_Line.enc ([] : List Tapi_Line))), ((.vec 0 0 2 : AV) = .vec 0 (([] : List Tapi_Line).length) 2)])) (by kernel_rfl) (by kernel_rfl) (allOk_append.2 ⟨(tollwayref24_Lines_p2q l_0 cents_1 r1 h2), ⟨(not_t (beq_f c3)), rfl, ok1 rfl⟩⟩)
theorem tollwayref24_Lines_ret (l_0 : (List Tapi_Discount)) (cents_1 : Int) (r : (List Tapi_Line)) (h : tollwayref24_Lines l_0 cents_1 = some r) : Ret Try.prog G0 15 [.lst (fl Tapi_Discount.enc l_0) l_0.length, .int .i64 cents_1] (.vec 0 r.length 2) [(bV (fl Tapi_Line.enc r) 37)] := by
  unfold tollwayref24_Lines at h
  obtain ⟨r1, h2, h⟩ := bind_some h
  rcases ite_some h with ⟨c3, h⟩ | ⟨c3, h⟩
  · obtain ⟨o4, hl4, h⟩ := bind_some h
    simp only [Option.some.injEq] at h
    subst h
    exact tollwayref24_Lines_0 l_0 cents_1 r1 h2 c3 o4 hl4
  · simp only [Option.some.injEq] at h
    subst h
    exact tollwayref24_Lines_1 l_0 cents_1 r1 h2 c3
noncomputable def tollwayref20_SameNumbers_L2_step (a_0 : (List Int)) (b_1 : (List Int)) : Nat → Option (Nat ⊕ (Unit ⊕ Unit)) := fun k5 =>
  if (↑k5 : Int) < (↑a_0.length : Int) then
    (a_0[k5]?).bind fun x11 =>
    (b_1[k5]?).bind fun x13 =>
    if x11 = x13 then
      if InR .i64 ((↑k5 : Int) + 1) then
        some (Sum.inl (k5 + 1))
      else none
    else
      some (Sum.inr (Sum.inl ()))
  else
    some (Sum.inr (Sum.inr (())))
def tollwayref20_SameNumbers_L2_H (a_0 : (List Int)) (b_1 : (List Int)) : Nat → St := fun (s : Nat) => S 26 [(0, .lst (fl e_i64 a_0) a_0.length), (1, .lst (fl e_i64 b_1) b_1.length), (5, .int .i64 (↑s : Int))] []
theorem tollwayref20_SameNumbers_L2_0 (a_0 : (List Int)) (b_1 : (List Int)) (k5 : Nat) (c10 : (↑k5 : Int) < (↑a_0.length : Int)) (x11 : Int) (h12 : a_0[k5]? = some x11) (x13 : Int) (h14 : b_1[k5]? = some x13) (c15 : x11 = x13) (h16 : InR .i64 ((↑k5 : Int) + 1)) : Does Try.prog G0 0 (bodyAt Try.prog 12 [1, 1, 0, 1, 0, 0]) (tollwayref20_SameNumbers_L2_H a_0 b_1 k5) .normal (S 26 [(0, .lst (fl e_i64 a_0) a_0.length), (1, .lst (fl e_i64 b_1) b_1.length), (5, .int .i64 ((↑k5 : Int) + 1))] []) :=
  Does.of_viewM 0 400 (cs 3 ((.op none .a) :: (.br true) :: (cs 2 ((.op none (.i k5)) :: (.op none (.v [.int .i64 x11])) :: (cs 2 [.op none (.i k5), .op none (.v [.int .i64 x13]), .op none .a, .br false, .op none .c, .op none .w, .op none .c]))))) [] (ps := [((decide ((↑k5 : Int) < (↑a_0.length : Int))) = true), ((↑k5 : Int) = ((k5 : Nat) : Int) ∧ k5 < a_0.length), ((fl e_i64 a_0) ≠ []), (sub (fl e_i64 a_0) k5 1 = [.int .i64 x11]), ((↑k5 : Int) = ((k5 : Nat) : Int) ∧ k5 < b_1.length), ((fl e_i64 b_1) ≠ []), (sub (fl e_i64 b_1) k5 1 = [.int .i64 x13]), ((!(x11 == x13)) = false), (IntKind.min .i64 ≤ ((↑k5 : Int) + 1) ∧ ((↑k5 : Int) + 1) ≤ IntKind.max .i64)]) (by kernel_rfl) (by kernel_rfl) ⟨(decide_eq_true c10), ⟨rfl, get_lt h12⟩, (fl_ne (f := e_i64) (z := 0) (fun _ => rfl) h12), (fl_sub1 (f := e_i64) (fun _ => rfl) h12 rfl), ⟨rfl, get_lt h14⟩, (fl_ne (f := e_i64) (z := 0) (fun _ => rfl) h14), (fl_sub1 (f := e_i64) (fun _ => rfl) h14 rfl), (not_f (beq_t c15)), ok1 h16⟩
theorem tollwayref20_SameNumbers_L2_1 (a_0 : (List Int)) (b_1 : (List Int)) (k5 : Nat) (c10 : (↑k5 : Int) < (↑a_0.length : Int)) (x11 : Int) (h12 : a_0[k5]? = some x11) (x13 : Int) (h14 : b_1[k5]? = some x13) (c15 : ¬ (x11 = x13)) : Does Try.prog G0 0 (bodyAt Try.prog 12 [1, 1, 0, 1, 0, 0]) (tollwayref20_SameNumbers_L2_H a_0 b_1 k5) .ret (S 26 [(4, .bool false)] []) :=
  Does.of_viewM 0 400 (cs 3 ((.op none .a) :: (.br true) :: (cs 2 ((.op none (.i k5)) :: (.op none (.v [.int .i64 x11])) :: (cs 2 [.op none (.i k5), .op none (.v [.int .i64 x13]), .op none .a, .br true, .op none .c]))))) [] (ps := [((decide ((↑k5 : Int) < (↑a_0.length : Int))) = true), ((↑k5 : Int) = ((k5 : Nat) : Int) ∧ k5 < a_0.length), ((fl e_i64 a_0) ≠ []), (sub (fl e_i64 a_0) k5 1 = [.int .i64 x11]), ((↑k5 : Int) = ((k5 : Nat) : Int) ∧ k5 < b_1.length), ((fl e_i64 b_1) ≠ []), (sub (fl e_i64 b_1) k5 1 = [.int .i64 x13]), ((!(x11 == x13)) = true)]) (by kernel_rfl) (by kernel_rfl) ⟨(decide_eq_true c10), ⟨rfl, get_lt h12⟩, (fl_ne (f := e_i64) (z := 0) (fun _ => rfl) h12), (fl_sub1 (f := e_i64) (fun _ => rfl) h12 rfl), ⟨rfl, get_lt h14⟩, (fl_ne (f := e_i64) (z := 0) (fun _ => rfl) h14), (fl_sub1 (f := e_i64) (fun _ => rfl) h14 rfl), ok1 (not_t (beq_f c15))⟩
theorem tollwayref20_SameNumbers_L2_2 (a_0 : (List Int)) (b_1 : (List Int)) (k5 : Nat) (c10 : ¬ ((↑k5 : Int) < (↑a_0.length : Int))) : Does Try.prog G0 0 (bodyAt Try.prog 12 [1, 1, 0, 1, 0, 0]) (tollwayref20_SameNumbers_L2_H a_0 b_1 k5) (.exit 0) (S 26 [] []) :=
  Does.of_viewM 0 400 (cs 3 [.op none .a, .br false]) [] (ps := [((decide ((↑k5 : Int) < (↑a_0.length : Int))) = false)]) (by kernel_rfl) (by kernel_rfl) (ok1 (decide_eq_false c10))
def tollwayref20_SameNumbers_L2_X (a_0 : (List Int)) (b_1 : (List Int)) : (Unit ⊕ Unit) → AEx := fun q => match q with | Sum.inl o => .ret | Sum.inr (o) => (.exit 0)
def tollwayref20_SameNumbers_L2_E (a_0 : (List Int)) (b_1 : (List Int)) : (Unit ⊕ Unit) → St := fun q => match q with | Sum.inl o => S 26 [(4, .bool false)] [] | Sum.inr (o) => S 26 [] []
theorem tollwayref20_SameNumbers_L2_does (a_0 : (List Int)) (b_1 : (List Int)) {s : Nat} {r : Unit ⊕ Unit} (h : lp (tollwayref20_SameNumbers_L2_step a_0 b_1) s = some r) : Does Try.prog G0 0 (.loop (bodyAt Try.prog 12 [1, 1, 0, 1, 0, 0])) (tollwayref20_SameNumbers_L2_H a_0 b_1 s) (tollwayref20_SameNumbers_L2_X a_0 b_1 r) (tollwayref20_SameNumbers_L2_E a_0 b_1 r) := by
  refine Does.lp (H := tollwayref20_SameNumbers_L2_H a_0 b_1) (X := tollwayref20_SameNumbers_L2_X a_0 b_1) (E := tollwayref20_SameNumbers_L2_E a_0 b_1) (fun s s2 h => ?_) (fun s r h => ?_) h
  · revert h; revert s; intro k5 h
    unfold tollwayref20_SameNumbers_L2_step at h
    try dsimp only at h
    rcases ite_some h with ⟨c10, h⟩ | ⟨c10, h⟩
    · obtain ⟨x11, h12, h⟩ := bind_some h
      obtain ⟨x13, h14, h⟩ := bind_some h
      rcases ite_some h with ⟨c15, h⟩ | ⟨c15, h⟩
      · obtain ⟨h16, h⟩ := guard_some h
        simp only [Option.some.injEq, Sum.inl.injEq] at h
        subst h
        have hq := tollwayref20_SameNumbers_L2_0 a_0 b_1 k5 c10 x11 h12 x13 h14 c15 h16
        first | exact hq | exact Eq.mp (by simp only [tollwayref20_SameNumbers_L2_H, List.length_set] <;> rfl) hq
      · simp at h
    · simp at h
  · revert h; revert s; intro k5 h
    unfold tollwayref20_SameNumbers_L2_step at h
    try dsimp only at h
    rcases ite_some h with ⟨c10, h⟩ | ⟨c10, h⟩
    · obtain ⟨x11, h12, h⟩ := bind_some h
      obtain ⟨x13, h14, h⟩ := bind_some h
      rcases ite_some h with ⟨c15, h⟩ | ⟨c15, h⟩
      · obtain ⟨h16, h⟩ := guard_some h
        simp at h
      · simp only [Option.some.injEq, Sum.inr.injEq] at h
        subst h
        exact ⟨tollwayref20_SameNumbers_L2_1 a_0 b_1 k5 c10 x11 h12 x13 h14 c15, by intro q; cases q⟩
    · simp only [Option.some.injEq, Sum.inr.injEq] at h
      subst h
      exact ⟨tollwayref20_SameNumbers_L2_2 a_0 b_1 k5 c10, by intro q; cases q⟩
noncomputable def tollwayref20_SameNumbers (a_0 : (List Int)) (b_1 : (List Int)) : Option Bool :=
  if (↑a_0.length : Int) = (↑b_1.length : Int) then
    (lp (tollwayref20_SameNumbers_L2_step a_0 b_1) (0 : Nat)).bind fun qq => match qq with
    | Sum.inl o2 =>
      some false
    | Sum.inr (o2) =>
      some true
  else
    some false
def tollwayref20_SameNumbers_h1  : List CH := (cs 5 [.op none .a])
def tollwayref20_SameNumbers_p2 (a_0 : (List Int)) (b_1 : (List Int)) : List Prop := [((!((↑a_0.length : Int) == (↑b_1.length : Int))) = false), ((.lst (fl e_i64 a_0) a_0.length : AV) = .lst (fl e_i64 a_0) a_0.length), ((.lst (fl e_i64 b_1) b_1.length : AV) = .lst (fl e_i64 b_1) b_1.length), ((.int .i64 0 : AV) = .int .i64 (↑(0 : Nat) : Int))]
theorem tollwayref20_SameNumbers_p2q (a_0 : (List Int)) (b_1 : (List Int)) (c1 : (↑a_0.length : Int) = (↑b_1.length : Int)) : allOk (tollwayref20_SameNumbers_p2 a_0 b_1) := ⟨(not_f (beq_t c1)), rfl, rfl, ok1 rfl⟩
theorem tollwayref20_SameNumbers_0 (a_0 : (List Int)) (b_1 : (List Int)) (c1 : (↑a_0.length : Int) = (↑b_1.length : Int)) (o2 : Unit) (hl2 : lp (tollwayref20_SameNumbers_L2_step a_0 b_1) (0 : Nat) = some (Sum.inl o2)) : Ret Try.prog G0 12 [.lst (fl e_i64 a_0) a_0.length, .lst (fl e_i64 b_1) b_1.length] (.bool false) [] :=
  Ret.of_view 400 ((tollwayref20_SameNumbers_h1) ++ ([.br false, .op none .c] ++ [.fcut 0 .ret [(4, .bool false)] [] [] [(0, .lst (fl e_i64 a_0) a_0.length), (1, .lst (fl e_i64 b_1) b_1.length), (5, .int .i64 (↑(0 : Nat) : Int))] []])) [] (ps := ((tollwayref20_SameNumbers_p2 a_0 b_1) ++ [(Does Try.prog G0 0 (.loop (bodyAt Try.prog 12 [1, 1, 0, 1, 0, 0])) (S 26 [(0, .lst (fl e_i64 a_0) a_0.length), (1, .lst (fl e_i64 b_1) b_1.length), (5, .int .i64 (↑(0 : Nat) : Int))] []) .ret (S 26 [(4, .bool false)] []))])) (by kernel_rfl) (by kernel_rfl) (allOk_append.2 ⟨(tollwayref20_SameNumbers_p2q a_0 b_1 c1), (ok1 (tollwayref20_SameNumbers_L2_does a_0 b_1 (s := (0 : Nat)) (r := Sum.inl o2) hl2))⟩)
theorem tollwayref20_SameNumbers_1 (a_0 : (List Int)) (b_1 : (List Int)) (c1 : (↑a_0.length : Int) = (↑b_1.length : Int)) (o2 : Unit) (hl2 : lp (tollwayref20_SameNumbers_L2_step a_0 b_1) (0 : Nat) = some (Sum.inr (o2))) : Ret Try.prog G0 12 [.lst (fl e_i64 a_0) a_0.length, .lst (fl e_i64 b_1) b_1.length] (.bool true) [] :=
  Ret.of_view 400 ((tollwayref20_SameNumbers_h1) ++ ([.br false, .op none .c] ++ [.fcut 0 (.exit 0) [] [] [] [(0, .lst (fl e_i64 a_0) a_0.length), (1, .lst (fl e_i64 b_1) b_1.length), (5, .int .i64 (↑(0 : Nat) : Int))] [], .op none .c])) [] (ps := ((tollwayref20_SameNumbers_p2 a_0 b_1) ++ [(Does Try.prog G0 0 (.loop (bodyAt Try.prog 12 [1, 1, 0, 1, 0, 0])) (S 26 [(0, .lst (fl e_i64 a_0) a_0.length), (1, .lst (fl e_i64 b_1) b_1.length), (5, .int .i64 (↑(0 : Nat) : Int))] []) (.exit 0) (S 26 [] []))])) (by kernel_rfl) (by kernel_rfl) (allOk_append.2 ⟨(tollwayref20_SameNumbers_p2q a_0 b_1 c1), (ok1 (tollwayref20_SameNumbers_L2_does a_0 b_1 (s := (0 : Nat)) (r := Sum.inr (o2)) hl2))⟩)
theorem tollwayref20_SameNumbers_2 (a_0 : (List Int)) (b_1 : (List Int)) (c1 : ¬ ((↑a_0.length : Int) = (↑b_1.length : Int))) : Ret Try.prog G0 12 [.lst (fl e_i64 a_0) a_0.length, .lst (fl e_i64 b_1) b_1.length] (.bool false) [] :=
  Ret.of_view 400 ((tollwayref20_SameNumbers_h1) ++ [.br true, .op none .c]) [] (ps := [((!((↑a_0.length : Int) == (↑b_1.length : Int))) = true)]) (by kernel_rfl) (by kernel_rfl) (ok1 (not_t (beq_f c1)))
theorem tollwayref20_SameNumbers_ret (a_0 : (List Int)) (b_1 : (List Int)) (r : Bool) (h : tollwayref20_SameNumbers a_0 b_1 = some r) : Ret Try.prog G0 12 [.lst (fl e_i64 a_0) a_0.length, .lst (fl e_i64 b_1) b_1.length] (.bool r) [] := by
  unfold tollwayref20_SameNumbers at h
  rcases ite_some h with ⟨c1, h⟩ | ⟨c1, h⟩
  · obtain ⟨qq, hl2, h⟩ := bind_some h
    rcases qq with o2 | o2
    · dsimp only at h
      simp only [Option.some.injEq] at h
      subst h
      exact tollwayref20_SameNumbers_0 a_0 b_1 c1 o2 hl2
    · dsimp only at h
      simp only [Option.some.injEq] at h
      subst h
      exact tollwayref20_SameNumbers_1 a_0 b_1 c1 o2 hl2
  · simp only [Option.some.injEq] at h
    subst h
    exact tollwayref20_SameNumbers_2 a_0 b_1 c1
noncomputable def tollwayref24_SameLines_L2_step (a_0 : (List Tapi_Line)) (b_1 : (List Tapi_Line)) : Nat → Option (Nat ⊕ (Unit ⊕ Unit)) := fun k5 =>
  if (↑k5 : Int) < (↑a_0.length : Int) then
    (a_0[k5]?).bind fun x12 =>
    (b_1[k5]?).bind fun x14 =>
    if x12.Text = x14.Text then
      if x12.Cents = x14.Cents then
        if InR .i64 ((↑k5 : Int) + 1) then
          some (Sum.inl (k5 + 1))
        else none
      else
        some (Sum.inr (Sum.inl ()))
    else
      some (Sum.inr (Sum.inl ()))
  else
    some (Sum.inr (Sum.inr (())))
def tollwayref24_SameLines_L2_H (a_0 : (List Tapi_Line)) (b_1 : (List Tapi_Line)) : Nat → St := fun (s : Nat) => S 41 [(0, .lst (fl Tapi_Line.enc a_0) a_0.length), (1, .lst (fl Tapi_Line.enc b_1) b_1.length), (5, .int .i64 (↑s : Int))] []
theorem tollwayref24_SameLines_L2_0 (a_0 : (List Tapi_Line)) (b_1 : (List Tapi_Line)) (k5 : Nat) (c11 : (↑k5 : Int) < (↑a_0.length : Int)) (x12 : Tapi_Line) (h13 : a_0[k5]? = some x12) (x14 : Tapi_Line) (h15 : b_1[k5]? = some x14) (c16 : x12.Text = x14.Text) (c17 : x12.Cents = x14.Cents) (h18 : InR .i64 ((↑k5 : Int) + 1)) : Does Try.prog G0 0 (bodyAt Try.prog 13 [1, 1, 0, 1, 0, 0]) (tollwayref24_SameLines_L2_H a_0 b_1 k5) .normal (S 41 [(0, .lst (fl Tapi_Line.enc a_0) a_0.length), (1, .lst (fl Tapi_Line.enc b_1) b_1.length), (5, .int .i64 ((↑k5 : Int) + 1))] []) :=
  Does.of_viewM 0 400 (cs 3 ((.op none .a) :: (.br true) :: (cs 2 ((.op none (.i k5)) :: (.op none .c) :: (.op none (.v [.str x12.Text])) :: (cs 2 [.op none (.i k5), .op none .c, .op none (.v [.str x14.Text]), .op none .a, .op none .c, .op (some false) .c, .op (some false) .c, .op (some false) (.i k5), .op (some false) .c, .op (some false) (.v [.int .i64 x12.Cents]), .op (some false) .c, .op (some false) .c, .op (some false) (.i k5), .op (some false) .c, .op (some false) (.v [.int .i64 x14.Cents]), .op (some false) .a, .op none (.b false), .br false, .op none .c, .op none .w, .op none .c]))))) [] (ps := [((decide ((↑k5 : Int) < (↑a_0.length : Int))) = true), ((↑k5 : Int) = ((k5 : Nat) : Int) ∧ k5 < a_0.length), ((fl Tapi_Line.enc a_0) ≠ []), (sub (fl Tapi_Line.enc a_0) (k5 * 2) 1 = [.str x12.Text]), ((↑k5 : Int) = ((k5 : Nat) : Int) ∧ k5 < b_1.length), ((fl Tapi_Line.enc b_1) ≠ []), (sub (fl Tapi_Line.enc b_1) (k5 * 2) 1 = [.str x14.Text]), ((!(x12.Text == x14.Text)) = false), ((!(x12.Text == x14.Text)) = false), ((!(x12.Text == x14.Text)) = false), ((↑k5 : Int) = ((k5 : Nat) : Int) ∧ k5 < a_0.length), ((fl Tapi_Line.enc a_0) ≠ []), ((!(x12.Text == x14.Text)) = false), ((!(x12.Text == x14.Text)) = false), (sub (fl Tapi_Line.enc a_0) ((k5 * 2) + 1) 1 = [.int .i64 x12.Cents]), ((!(x12.Text == x14.Text)) = false), ((!(x12.Text == x14.Text)) = false), ((!(x12.Text == x14.Text)) = false), ((↑k5 : Int) = ((k5 : Nat) : Int) ∧ k5 < b_1.length), ((fl Tapi_Line.enc b_1) ≠ []), ((!(x12.Text == x14.Text)) = false), ((!(x12.Text == x14.Text)) = false), (sub (fl Tapi_Line.enc b_1) ((k5 * 2) + 1) 1 = [.int .i64 x14.Cents]), ((!(x12.Text == x14.Text)) = false), ((!(x12.Text == x14.Text)) = false), ((!(x12.Cents == x14.Cents)) = false), (IntKind.min .i64 ≤ ((↑k5 : Int) + 1) ∧ ((↑k5 : Int) + 1) ≤ IntKind.max .i64)]) (by kernel_rfl) (by kernel_rfl) ⟨(decide_eq_true c11), ⟨rfl, get_lt h13⟩, (fl_ne (f := Tapi_Line.enc) (z := 1) (fun _ => rfl) h13), (fl_sub (f := Tapi_Line.enc) (z := 2) (j := k5) (a := 0) (n := 1) (fun _ => rfl) h13 (by decide) rfl), ⟨rfl, get_lt h15⟩, (fl_ne (f := Tapi_Line.enc) (z := 1) (fun _ => rfl) h15), (fl_sub (f := Tapi_Line.enc) (z := 2) (j := k5) (a := 0) (n := 1) (fun _ => rfl) h15 (by decide) rfl), (not_f (beq_t c16)), (not_f (beq_t c16)), (not_f (beq_t c16)), ⟨rfl, get_lt h13⟩, (fl_ne (f := Tapi_Line.enc) (z := 1) (fun _ => rfl) h13), (not_f (beq_t c16)), (not_f (beq_t c16)), (fl_sub (f := Tapi_Line.enc) (z := 2) (j := k5) (a := 1) (n := 1) (fun _ => rfl) h13 (by decide) rfl), (not_f (beq_t c16)), (not_f (beq_t c16)), (not_f (beq_t c16)), ⟨rfl, get_lt h15⟩, (fl_ne (f := Tapi_Line.enc) (z := 1) (fun _ => rfl) h15), (not_f (beq_t c16)), (not_f (beq_t c16)), (fl_sub (f := Tapi_Line.enc) (z := 2) (j := k5) (a := 1) (n := 1) (fun _ => rfl) h15 (by decide) rfl), (not_f (beq_t c16)), (not_f (beq_t c16)), (not_f (beq_t c17)), ok1 h18⟩
theorem tollwayref24_SameLines_L2_1 (a_0 : (List Tapi_Line)) (b_1 : (List Tapi_Line)) (k5 : Nat) (c11 : (↑k5 : Int) < (↑a_0.length : Int)) (x12 : Tapi_Line) (h13 : a_0[k5]? = some x12) (x14 : Tapi_Line) (h15 : b_1[k5]? = some x14) (c16 : x12.Text = x14.Text) (c17 : ¬ (x12.Cents = x14.Cents)) : Does Try.prog G0 0 (bodyAt Try.prog 13 [1, 1, 0, 1, 0, 0]) (tollwayref24_SameLines_L2_H a_0 b_1 k5) .ret (S 41 [(4, .bool false)] []) :=
  Does.of_viewM 0 400 (cs 3 ((.op none .a) :: (.br true) :: (cs 2 ((.op none (.i k5)) :: (.op none .c) :: (.op none (.v [.str x12.Text])) :: (cs 2 [.op none (.i k5), .op none .c, .op none (.v [.str x14.Text]), .op none .a, .op none .c, .op (some false) .c, .op (some false) .c, .op (some false) (.i k5), .op (some false) .c, .op (some false) (.v [.int .i64 x12.Cents]), .op (some false) .c, .op (some false) .c, .op (some false) (.i k5), .op (some false) .c, .op (some false) (.v [.int .i64 x14.Cents]), .op (some false) .a, .op none (.b false), .br true, .op none .c]))))) [] (ps := [((decide ((↑k5 : Int) < (↑a_0.length : Int))) = true), ((↑k5 : Int) = ((k5 : Nat) : Int) ∧ k5 < a_0.length), ((fl Tapi_Line.enc a_0) ≠ []), (sub (fl Tapi_Line.enc a_0) (k5 * 2) 1 = [.str x12.Text]), ((↑k5 : Int) = ((k5 : Nat) : Int) ∧ k5 < b_1.length), ((fl Tapi_Line.enc b_1) ≠ []), (sub (fl Tapi_Line.enc b_1) (k5 * 2) 1 = [.str x14.Text]), ((!(x12.Text == x14.Text)) = false), ((!(x12.Text == x14.Text)) = false), ((!(x12.Text == x14.Text)) = false), ((↑k5 : Int) = ((k5 : Nat) : Int) ∧ k5 < a_0.length), ((fl Tapi_Line.enc a_0) ≠ []), ((!(x12.Text == x14.Text)) = false), ((!(x12.Text == x14.Text)) = false), (sub (fl Tapi_Line.enc a_0) ((k5 * 2) + 1) 1 = [.int .i64 x12.Cents]), ((!(x12.Text == x14.Text)) = false), ((!(x12.Text == x14.Text)) = false), ((!(x12.Text == x14.Text)) = false), ((↑k5 : Int) = ((k5 : Nat) : Int) ∧ k5 < b_1.length), ((fl Tapi_Line.enc b_1) ≠ []), ((!(x12.Text == x14.Text)) = false), ((!(x12.Text == x14.Text)) = false), (sub (fl Tapi_Line.enc b_1) ((k5 * 2) + 1) 1 = [.int .i64 x14.Cents]), ((!(x12.Text == x14.Text)) = false), ((!(x12.Text == x14.Text)) = false), ((!(x12.Cents == x14.Cents)) = true)]) (by kernel_rfl) (by kernel_rfl) ⟨(decide_eq_true c11), ⟨rfl, get_lt h13⟩, (fl_ne (f := Tapi_Line.enc) (z := 1) (fun _ => rfl) h13), (fl_sub (f := Tapi_Line.enc) (z := 2) (j := k5) (a := 0) (n := 1) (fun _ => rfl) h13 (by decide) rfl), ⟨rfl, get_lt h15⟩, (fl_ne (f := Tapi_Line.enc) (z := 1) (fun _ => rfl) h15), (fl_sub (f := Tapi_Line.enc) (z := 2) (j := k5) (a := 0) (n := 1) (fun _ => rfl) h15 (by decide) rfl), (not_f (beq_t c16)), (not_f (beq_t c16)), (not_f (beq_t c16)), ⟨rfl, get_lt h13⟩, (fl_ne (f := Tapi_Line.enc) (z := 1) (fun _ => rfl) h13), (not_f (beq_t c16)), (not_f (beq_t c16)), (fl_sub (f := Tapi_Line.enc) (z := 2) (j := k5) (a := 1) (n := 1) (fun _ => rfl) h13 (by decide) rfl), (not_f (beq_t c16)), (not_f (beq_t c16)), (not_f (beq_t c16)), ⟨rfl, get_lt h15⟩, (fl_ne (f := Tapi_Line.enc) (z := 1) (fun _ => rfl) h15), (not_f (beq_t c16)), (not_f (beq_t c16)), (fl_sub (f := Tapi_Line.enc) (z := 2) (j := k5) (a := 1) (n := 1) (fun _ => rfl) h15 (by decide) rfl), (not_f (beq_t c16)), (not_f (beq_t c16)), ok1 (not_t (beq_f c17))⟩
theorem tollwayref24_SameLines_L2_2 (a_0 : (List Tapi_Line)) (b_1 : (List Tapi_Line)) (k5 : Nat) (c11 : (↑k5 : Int) < (↑a_0.length : Int)) (x12 : Tapi_Line) (h13 : a_0[k5]? = some x12) (x14 : Tapi_Line) (h15 : b_1[k5]? = some x14) (c16 : ¬ (x12.Text = x14.Text)) : Does Try.prog G0 0 (bodyAt Try.prog 13 [1, 1, 0, 1, 0, 0]) (tollwayref24_SameLines_L2_H a_0 b_1 k5) .ret (S 41 [(4, .bool false)] []) :=
  Does.of_viewM 0 400 (cs 3 ((.op none .a) :: (.br true) :: (cs 2 ((.op none (.i k5)) :: (.op none .c) :: (.op none (.v [.str x12.Text])) :: (cs 2 [.op none (.i k5), .op none .c, .op none (.v [.str x14.Text]), .op none .a, .op none .c, .op (some true) .c, .op (some true) .c, .op (some true) .c, .op (some true) .c, .op (some true) .c, .op (some true) .c, .op (some true) .c, .op (some true) .c, .op (some true) .c, .op (some true) .c, .op (some true) .c, .op none (.b true), .br true, .op none .c]))))) [] (ps := [((decide ((↑k5 : Int) < (↑a_0.length : Int))) = true), ((↑k5 : Int) = ((k5 : Nat) : Int) ∧ k5 < a_0.length), ((fl Tapi_Line.enc a_0) ≠ []), (sub (fl Tapi_Line.enc a_0) (k5 * 2) 1 = [.str x12.Text]), ((↑k5 : Int) = ((k5 : Nat) : Int) ∧ k5 < b_1.length), ((fl Tapi_Line.enc b_1) ≠ []), (sub (fl Tapi_Line.enc b_1) (k5 * 2) 1 = [.str x14.Text]), ((!(x12.Text == x14.Text)) = true), ((!(x12.Text == x14.Text)) = true), ((!(x12.Text == x14.Text)) = true), ((!(x12.Text == x14.Text)) = true), ((!(x12.Text == x14.Text)) = true), ((!(x12.Text == x14.Text)) = true), ((!(x12.Text == x14.Text)) = true), ((!(x12.Text == x14.Text)) = true), ((!(x12.Text == x14.Text)) = true), ((!(x12.Text == x14.Text)) = true), ((!(x12.Text == x14.Text)) = true), ((!(x12.Text == x14.Text)) = true), (true = true)]) (by kernel_rfl) (by kernel_rfl) ⟨(decide_eq_true c11), ⟨rfl, get_lt h13⟩, (fl_ne (f := Tapi_Line.enc) (z := 1) (fun _ => rfl) h13), (fl_sub (f := Tapi_Line.enc) (z := 2) (j := k5) (a := 0) (n := 1) (fun _ => rfl) h13 (by decide) rfl), ⟨rfl, get_lt h15⟩, (fl_ne (f := Tapi_Line.enc) (z := 1) (fun _ => rfl) h15), (fl_sub (f := Tapi_Line.enc) (z := 2) (j := k5) (a := 0) (n := 1) (fun _ => rfl) h15 (by decide) rfl), (not_t (beq_f c16)), (not_t (beq_f c16)), (not_t (beq_f c16)), (not_t (beq_f c16)), (not_t (beq_f c16)), (not_t (beq_f c16)), (not_t (beq_f c16)), (not_t (beq_f c16)), (not_t (beq_f c16)), (not_t (beq_f c16)), (not_t (beq_f c16)), (not_t (beq_f c16)), ok1 rfl⟩
theorem tollwayref24_SameLines_L2_3 (a_0 : (List Tapi_Line)) (b_1 : (List Tapi_Line)) (k5 : Nat) (c11 : ¬ ((↑k5 : Int) < (↑a_0.length : Int))) : Does Try.prog G0 0 (bodyAt Try.prog 13 [1, 1, 0, 1, 0, 0]) (tollwayref24_SameLines_L2_H a_0 b_1 k5) (.exit 0) (S 41 [] []) :=
  Does.of_viewM 0 400 (cs 3 [.op none .a, .br false]) [] (ps := [((decide ((↑k5 : Int) < (↑a_0.length : Int))) = false)]) (by kernel_rfl) (by kernel_rfl) (ok1 (decide_eq_false c11))
def tollwayref24_SameLines_L2_X (a_0 : (List Tapi_Line)) (b_1 : (List Tapi_Line)) : (Unit ⊕ Unit) → AEx := fun q => match q with | Sum.inl o => .ret | Sum.inr (o) => (.exit 0)
def tollwayref24_SameLines_L2_E (a_0 : (List Tapi_Line)) (b_1 : (List Tapi_Line)) : (Unit ⊕ Unit) → St := fun q => match q with | Sum.inl o => S 41 [(4, .bool false)] [] | Sum.inr (o) => S 41 [] []
theorem tollwayref24_SameLines_L2_does (a_0 : (List Tapi_Line)) (b_1 : (List Tapi_Line)) {s : Nat} {r : Unit ⊕ Unit} (h : lp (tollwayref24_SameLines_L2_step a_0 b_1) s = some r) : Does Try.prog G0 0 (.loop (bodyAt Try.prog 13 [1, 1, 0, 1, 0, 0])) (tollwayref24_SameLines_L2_H a_0 b_1 s) (tollwayref24_SameLines_L2_X a_0 b_1 r) (tollwayref24_SameLines_L2_E a_0 b_1 r) := by
  refine Does.lp (H := tollwayref24_SameLines_L2_H a_0 b_1) (X := tollwayref24_SameLines_L2_X a_0 b_1) (E := tollwayref24_SameLines_L2_E a_0 b_1) (fun s s2 h => ?_) (fun s r h => ?_) h
  · revert h; revert s; intro k5 h
    unfold tollwayref24_SameLines_L2_step at h
    try dsimp only at h
    rcases ite_some h with ⟨c11, h⟩ | ⟨c11, h⟩
    · obtain ⟨x12, h13, h⟩ := bind_some h
      obtain ⟨x14, h15, h⟩ := bind_some h
      rcases ite_some h with ⟨c16, h⟩ | ⟨c16, h⟩
      · rcases ite_some h with ⟨c17, h⟩ | ⟨c17, h⟩
        · obtain ⟨h18, h⟩ := guard_some h
          simp only [Option.some.injEq, Sum.inl.injEq] at h
          subst h
          have hq := tollwayref24_SameLines_L2_0 a_0 b_1 k5 c11 x12 h13 x14 h15 c16 c17 h18
          first | exact hq | exact Eq.mp (by simp only [tollwayref24_SameLines_L2_H, List.length_set] <;> rfl) hq
        · simp at h
      · simp at h
    · simp at h
  · revert h; revert s; intro k5 h
    unfold tollwayref24_SameLines_L2_step at h
    try dsimp only at h
    rcases ite_some h with ⟨c11, h⟩ | ⟨c11, h⟩
    · obtain ⟨x12, h13, h⟩ := bind_some h
      obtain ⟨x14, h15, h⟩ := bind_some h
      rcases ite_some h with ⟨c16, h⟩ | ⟨c16, h⟩
      · rcases ite_some h with ⟨c17, h⟩ | ⟨c17, h⟩
        · obtain ⟨h18, h⟩ := guard_some h
          simp at h
        · simp only [Option.some.injEq, Sum.inr.injEq] at h
          subst h
          exact ⟨tollwayref24_SameLines_L2_1 a_0 b_1 k5 c11 x12 h13 x14 h15 c16 c17, by intro q; cases q⟩
      · simp only [Option.some.injEq, Sum.inr.injEq] at h
        subst h
        exact ⟨tollwayref24_SameLines_L2_2 a_0 b_1 k5 c11 x12 h13 x14 h15 c16, by intro q; cases q⟩
    · simp only [Option.some.injEq, Sum.inr.injEq] at h
      subst h
      exact ⟨tollwayref24_SameLines_L2_3 a_0 b_1 k5 c11, by intro q; cases q⟩
noncomputable def tollwayref24_SameLines (a_0 : (List Tapi_Line)) (b_1 : (List Tapi_Line)) : Option Bool :=
  if (↑a_0.length : Int) = (↑b_1.length : Int) then
    (lp (tollwayref24_SameLines_L2_step a_0 b_1) (0 : Nat)).bind fun qq => match qq with
    | Sum.inl o2 =>
      some false
    | Sum.inr (o2) =>
      some true
  else
    some false
def tollwayref24_SameLines_h1  : List CH := (cs 5 [.op none .a])
def tollwayref24_SameLines_p2 (a_0 : (List Tapi_Line)) (b_1 : (List Tapi_Line)) : List Prop := [((!((↑a_0.length : Int) == (↑b_1.length : Int))) = false), ((.lst (fl Tapi_Line.enc a_0) a_0.length : AV) = .lst (fl Tapi_Line.enc a_0) a_0.length), ((.lst (fl Tapi_Line.enc b_1) b_1.length : AV) = .lst (fl Tapi_Line.enc b_1) b_1.length), ((.int .i64 0 : AV) = .int .i64 (↑(0 : Nat) : Int))]
theorem tollwayref24_SameLines_p2q (a_0 : (List Tapi_Line)) (b_1 : (List Tapi_Line)) (c1 : (↑a_0.length : Int) = (↑b_1.length : Int)) : allOk (tollwayref24_SameLines_p2 a_0 b_1) := ⟨(not_f (beq_t c1)), rfl, rfl, ok1 rfl⟩
theorem tollwayref24_SameLines_0 (a_0 : (List Tapi_Line)) (b_1 : (List Tapi_Line)) (c1 : (↑a_0.length : Int) = (↑b_1.length : Int)) (o2 : Unit) (hl2 : lp (tollwayref24_SameLines_L2_step a_0 b_1) (0 : Nat) = some (Sum.inl o2)) : Ret Try.prog G0 13 [.lst (fl Tapi_Line.enc a_0) a_0.length, .lst (fl Tapi_Line.enc b_1) b_1.length] (.bool false) [] :=
  Ret.of_view 400 ((tollwayref24_SameLines_h1) ++ ([.br false, .op none .c] ++ [.fcut 0 .ret [(4, .bool false)] [] [] [(0, .lst (fl Tapi_Line.enc a_0) a_0.length), (1, .lst (fl Tapi_Line.enc b_1) b_1.length), (5, .int .i64 (↑(0 : Nat) : Int))] []])) [] (ps := ((tollwayref24_SameLines_p2 a_0 b_1) ++ [(Does Try.prog G0 0 (.loop (bodyAt Try.prog 13 [1, 1, 0, 1, 0, 0])) (S 41 [(0, .lst (fl Tapi_Line.enc a_0) a_0.length), (1, .lst (fl Tapi_Line.enc b_1) b_1.length), (5, .int .i64 (↑(0 : Nat) : Int))] []) .ret (S 41 [(4, .bool false)] []))])) (by kernel_rfl) (by kernel_rfl) (allOk_append.2 ⟨(tollwayref24_SameLines_p2q a_0 b_1 c1), (ok1 (tollwayref24_SameLines_L2_does a_0 b_1 (s := (0 : Nat)) (r := Sum.inl o2) hl2))⟩)
theorem tollwayref24_SameLines_1 (a_0 : (List Tapi_Line)) (b_1 : (List Tapi_Line)) (c1 : (↑a_0.length : Int) = (↑b_1.length : Int)) (o2 : Unit) (hl2 : lp (tollwayref24_SameLines_L2_step a_0 b_1) (0 : Nat) = some (Sum.inr (o2))) : Ret Try.prog G0 13 [.lst (fl Tapi_Line.enc a_0) a_0.length, .lst (fl Tapi_Line.enc b_1) b_1.length] (.bool true) [] :=
  Ret.of_view 400 ((tollwayref24_SameLines_h1) ++ ([.br false, .op none .c] ++ [.fcut 0 (.exit 0) [] [] [] [(0, .lst (fl Tapi_Line.enc a_0) a_0.length), (1, .lst (fl Tapi_Line.enc b_1) b_1.length), (5, .int .i64 (↑(0 : Nat) : Int))] [], .op none .c])) [] (ps := ((tollwayref24_SameLines_p2 a_0 b_1) ++ [(Does Try.prog G0 0 (.loop (bodyAt Try.prog 13 [1, 1, 0, 1, 0, 0])) (S 41 [(0, .lst (fl Tapi_Line.enc a_0) a_0.length), (1, .lst (fl Tapi_Line.enc b_1) b_1.length), (5, .int .i64 (↑(0 : Nat) : Int))] []) (.exit 0) (S 41 [] []))])) (by kernel_rfl) (by kernel_rfl) (allOk_append.2 ⟨(tollwayref24_SameLines_p2q a_0 b_1 c1), (ok1 (tollwayref24_SameLines_L2_does a_0 b_1 (s := (0 : Nat)) (r := Sum.inr (o2)) hl2))⟩)
theorem tollwayref24_SameLines_2 (a_0 : (List Tapi_Line)) (b_1 : (List Tapi_Line)) (c1 : ¬ ((↑a_0.length : Int) = (↑b_1.length : Int))) : Ret Try.prog G0 13 [.lst (fl Tapi_Line.enc a_0) a_0.length, .lst (fl Tapi_Line.enc b_1) b_1.length] (.bool false) [] :=
  Ret.of_view 400 ((tollwayref24_SameLines_h1) ++ [.br true, .op none .c]) [] (ps := [((!((↑a_0.length : Int) == (↑b_1.length : Int))) = true)]) (by kernel_rfl) (by kernel_rfl) (ok1 (not_t (beq_f c1)))
theorem tollwayref24_SameLines_ret (a_0 : (List Tapi_Line)) (b_1 : (List Tapi_Line)) (r : Bool) (h : tollwayref24_SameLines a_0 b_1 = some r) : Ret Try.prog G0 13 [.lst (fl Tapi_Line.enc a_0) a_0.length, .lst (fl Tapi_Line.enc b_1) b_1.length] (.bool r) [] := by
  unfold tollwayref24_SameLines at h
  rcases ite_some h with ⟨c1, h⟩ | ⟨c1, h⟩
  · obtain ⟨qq, hl2, h⟩ := bind_some h
    rcases qq with o2 | o2
    · dsimp only at h
      simp only [Option.some.injEq] at h
      subst h
      exact tollwayref24_SameLines_0 a_0 b_1 c1 o2 hl2
    · dsimp only at h
      simp only [Option.some.injEq] at h
      subst h
      exact tollwayref24_SameLines_1 a_0 b_1 c1 o2 hl2
  · simp only [Option.some.injEq] at h
    subst h
    exact tollwayref24_SameLines_2 a_0 b_1 c1
end Go.Proofs.Ytabjlmlfmafllaa.Av
