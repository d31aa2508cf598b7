import Derived.Test.YtalobodhbbkgdaaDoorAvX
import Derived.Test.YtalobodhbbkgdaaDoorProg
import Derived.Tactics
import Derived.Test.YtalobodhbbkgdaaDoorTgK
set_option linter.unusedVariables false
set_option linter.unusedSimpArgs false
set_option maxHeartbeats 4000000
namespace Go.Proofs.YtalobodhbbkgdaaDoor.Av
open Go Go.Proofs
structure Tapi_TagState where
  Tag : (List UInt8)
  From : Int
  State : Int
def Tapi_TagState.enc (x : Tapi_TagState) : List AV := [.str x.Tag, .int .i64 x.From, .int .i64 x.State]
def strc_0 : List UInt8 := [48, 48, 48, 48, 48, 48, 48, 48, 48, 48, 48, 48, 48, 48, 48, 48, 48, 48, 48, 48, 48, 48, 48, 48, 48, 48, 48, 48, 48, 48, 48, 48, 48, 48, 48, 48, 48, 48, 48, 48, 48, 48, 48, 48, 48, 48, 48, 48, 48, 48, 48, 48, 48, 48, 48, 48, 48, 48, 48, 48, 48, 48, 48, 48]
noncomputable def tag_digits_L1_step (s_0 : (List UInt8)) (n_1 : Int) : Nat → Option (Nat ⊕ (Unit ⊕ Unit)) := fun p0 =>
  if p0 < s_0.length then
    (some (dec s_0 p0)).bind fun r13 =>
    if (↑r13.1 : Int) < (48 : Int) then
      some (Sum.inr (Sum.inl ()))
    else
      if (↑r13.1 : Int) > (57 : Int) then
        some (Sum.inr (Sum.inl ()))
      else
        some (Sum.inl (p0 + r13.2))
  else
    some (Sum.inr (Sum.inr (())))
def tag_digits_L1_H (s_0 : (List UInt8)) (n_1 : Int) : Nat → St := fun (s : Nat) => S 22 [(0, .str s_0), (1, .int .i64 n_1), (8, .ptr 0 0)] [{ c := [], e := 0, ext := false, fz := 0, pl := true, o := false, it := some (s_0, s) }]
theorem tag_digits_L1_0 (s_0 : (List UInt8)) (n_1 : Int) (p0 : Nat) (c12 : p0 < s_0.length) (r13 : (Nat × Nat)) (h14 : some (dec s_0 p0) = some r13) (c15 : (↑r13.1 : Int) < (48 : Int)) : Does Tryd.prog GT 0 (bodyAt Tryd.prog 24 [1, 0, 1, 0, 0]) (tag_digits_L1_H s_0 n_1 p0) .ret (S 22 [(4, .bool false)] []) :=
  Does.of_viewM 0 400 ((.op none (.m r13.1 r13.2)) :: (.op none .c) :: (.br true) :: (cs 3 ((.op none .a) :: (.op none .c) :: (.op (some true) .c) :: (cs 2 [.br true, .op none .c])))) [] (ps := [(p0 < s_0.length), (Utf8.decode ⟨s_0.toArray⟩ p0 = (r13.1, r13.2)), (true = true), ((decide ((↑r13.1 : Int) < (48 : Int))) = true), (true = true)]) (by kernel_rfl) (by kernel_rfl) ⟨c12, (Option.some.inj h14), rfl, (decide_eq_true c15), ok1 rfl⟩
theorem tag_digits_L1_1 (s_0 : (List UInt8)) (n_1 : Int) (p0 : Nat) (c12 : p0 < s_0.length) (r13 : (Nat × Nat)) (h14 : some (dec s_0 p0) = some r13) (c15 : ¬ ((↑r13.1 : Int) < (48 : Int))) (c16 : (↑r13.1 : Int) > (57 : Int)) : Does Tryd.prog GT 0 (bodyAt Tryd.prog 24 [1, 0, 1, 0, 0]) (tag_digits_L1_H s_0 n_1 p0) .ret (S 22 [(4, .bool false)] []) :=
  Does.of_viewM 0 400 ((.op none (.m r13.1 r13.2)) :: (.op none .c) :: (.br true) :: (cs 3 [.op none .a, .op none .c, .op (some false) .c, .op none .a, .op none .c, .br true, .op none .c])) [] (ps := [(p0 < s_0.length), (Utf8.decode ⟨s_0.toArray⟩ p0 = (r13.1, r13.2)), (true = true), ((decide ((↑r13.1 : Int) < (48 : Int))) = false), ((decide ((↑r13.1 : Int) > (57 : Int))) = true)]) (by kernel_rfl) (by kernel_rfl) ⟨c12, (Option.some.inj h14), rfl, (decide_eq_false c15), ok1 (decide_eq_true c16)⟩
theorem tag_digits_L1_2 (s_0 : (List UInt8)) (n_1 : Int) (p0 : Nat) (c12 : p0 < s_0.length) (r13 : (Nat × Nat)) (h14 : some (dec s_0 p0) = some r13) (c15 : ¬ ((↑r13.1 : Int) < (48 : Int))) (c16 : ¬ ((↑r13.1 : Int) > (57 : Int))) : Does Tryd.prog GT 0 (bodyAt Tryd.prog 24 [1, 0, 1, 0, 0]) (tag_digits_L1_H s_0 n_1 p0) .normal (S 22 [(0, .str s_0), (1, .int .i64 n_1), (8, .ptr 0 0)] [{ c := [], e := 0, ext := false, fz := 0, pl := true, o := false, it := some (s_0, (p0 + r13.2)) }]) :=
  Does.of_viewM 0 400 ((.op none (.m r13.1 r13.2)) :: (.op none .c) :: (.br true) :: (cs 3 [.op none .a, .op none .c, .op (some false) .c, .op none .a, .op none .c, .br false])) [0] (ps := [(p0 < s_0.length), (Utf8.decode ⟨s_0.toArray⟩ p0 = (r13.1, r13.2)), (true = true), ((decide ((↑r13.1 : Int) < (48 : Int))) = false), ((decide ((↑r13.1 : Int) > (57 : Int))) = false)]) (by kernel_rfl) (by kernel_rfl) ⟨c12, (Option.some.inj h14), rfl, (decide_eq_false c15), ok1 (decide_eq_false c16)⟩
theorem tag_digits_L1_3 (s_0 : (List UInt8)) (n_1 : Int) (p0 : Nat) (c12 : ¬ (p0 < s_0.length)) : Does Tryd.prog GT 0 (bodyAt Tryd.prog 24 [1, 0, 1, 0, 0]) (tag_digits_L1_H s_0 n_1 p0) (.exit 0) (S 22 [(0, .str s_0), (1, .int .i64 n_1)] []) :=
  Does.of_viewM 0 400 [.op none (.b false), .op none .c, .br false] [] (ps := [(¬ p0 < s_0.length), (false = false)]) (by kernel_rfl) (by kernel_rfl) ⟨c12, ok1 rfl⟩
def tag_digits_L1_X (s_0 : (List UInt8)) (n_1 : Int) : (Unit ⊕ Unit) → AEx := fun q => match q with | Sum.inl o => .ret | Sum.inr (o) => (.exit 0)
def tag_digits_L1_E (s_0 : (List UInt8)) (n_1 : Int) : (Unit ⊕ Unit) → St := fun q => match q with | Sum.inl o => S 22 [(4, .bool false)] [] | Sum.inr (o) => S 22 [(0, .str s_0), (1, .int .i64 n_1)] []
theorem tag_digits_L1_does (s_0 : (List UInt8)) (n_1 : Int) {s : Nat} {r : Unit ⊕ Unit} (h : lp (tag_digits_L1_step s_0 n_1) s = some r) : Does Tryd.prog GT 0 (.loop (bodyAt Tryd.prog 24 [1, 0, 1, 0, 0])) (tag_digits_L1_H s_0 n_1 s) (tag_digits_L1_X s_0 n_1 r) (tag_digits_L1_E s_0 n_1 r) := by
  refine Does.lp (H := tag_digits_L1_H s_0 n_1) (X := tag_digits_L1_X s_0 n_1) (E := tag_digits_L1_E s_0 n_1) (fun s s2 h => ?_) (fun s r h => ?_) h
  · revert h; revert s; intro p0 h
    unfold tag_digits_L1_step at h
    try dsimp only at h
    rcases ite_some h with ⟨c12, h⟩ | ⟨c12, h⟩
    · obtain ⟨r13, h14, h⟩ := bind_some h
      rcases ite_some h with ⟨c15, h⟩ | ⟨c15, h⟩
      · simp at h
      · rcases ite_some h with ⟨c16, h⟩ | ⟨c16, h⟩
        · simp at h
        · simp only [Option.some.injEq, Sum.inl.injEq] at h
          subst h
          have hq := tag_digits_L1_2 s_0 n_1 p0 c12 r13 h14 c15 c16
          first | exact hq | exact Eq.mp (by simp only [tag_digits_L1_H, List.length_set] <;> rfl) hq
    · simp at h
  · revert h; revert s; intro p0 h
    unfold tag_digits_L1_step at h
    try dsimp only at h
    rcases ite_some h with ⟨c12, h⟩ | ⟨c12, h⟩
    · obtain ⟨r13, h14, h⟩ := bind_some h
      rcases ite_some h with ⟨c15, h⟩ | ⟨c15, h⟩
      · simp only [Option.some.injEq, Sum.inr.injEq] at h
        subst h
        exact ⟨tag_digits_L1_0 s_0 n_1 p0 c12 r13 h14 c15, by intro q; cases q⟩
      · rcases ite_some h with ⟨c16, h⟩ | ⟨c16, h⟩
        · simp only [Option.some.injEq, Sum.inr.injEq] at h
          subst h
          exact ⟨tag_digits_L1_1 s_0 n_1 p0 c12 r13 h14 c15 c16, by intro q; cases q⟩
        · simp at h
    · simp only [Option.some.injEq, Sum.inr.injEq] at h
      subst h
      exact ⟨tag_digits_L1_3 s_0 n_1 p0 c12, by intro q; cases q⟩
noncomputable def tag_digits (s_0 : (List UInt8)) (n_1 : Int) : Option Bool :=
  (lp (tag_digits_L1_step s_0 n_1) (0 : Nat)).bind fun qq => match qq with
  | Sum.inl o1 =>
    some false
  | Sum.inr (o1) =>
    some ((↑s_0.length : Int) == n_1)
theorem tag_digits_0 (s_0 : (List UInt8)) (n_1 : Int) (o1 : Unit) (hl1 : lp (tag_digits_L1_step s_0 n_1) (0 : Nat) = some (Sum.inl o1)) : Ret Tryd.prog GT 24 [.str s_0, .int .i64 n_1] (.bool false) [] :=
  Ret.of_view 400 (cs 3 [.fcut 0 .ret [(4, .bool false)] [] [0] [(0, .str s_0), (1, .int .i64 n_1), (8, .ptr 0 0)] [{ c := [], e := 0, ext := false, fz := 0, pl := true, o := false, it := some (s_0, (0 : Nat)) }]]) [] (ps := [((.str s_0 : AV) = .str s_0), ((.int .i64 n_1 : AV) = .int .i64 n_1), ((.ptr 0 0 : AV) = .ptr 0 0), (s_0 = s_0 ∧ 0 = (0 : Nat)), (Does Tryd.prog GT 0 (.loop (bodyAt Tryd.prog 24 [1, 0, 1, 0, 0])) (S 22 [(0, .str s_0), (1, .int .i64 n_1), (8, .ptr 0 0)] [{ c := [], e := 0, ext := false, fz := 0, pl := true, o := false, it := some (s_0, (0 : Nat)) }]) .ret (S 22 [(4, .bool false)] []))]) (by kernel_rfl) (by kernel_rfl) ⟨rfl, rfl, rfl, ⟨rfl, rfl⟩, ok1 (tag_digits_L1_does s_0 n_1 hl1)⟩
theorem tag_digits_1 (s_0 : (List UInt8)) (n_1 : Int) (o1 : Unit) (hl1 : lp (tag_digits_L1_step s_0 n_1) (0 : Nat) = some (Sum.inr (o1))) : Ret Tryd.prog GT 24 [.str s_0, .int .i64 n_1] (.bool ((↑s_0.length : Int) == n_1)) [] :=
  Ret.of_view 400 (cs 3 ((.fcut 0 (.exit 0) [(0, .str s_0), (1, .int .i64 n_1)] [] [0] [(0, .str s_0), (1, .int .i64 n_1), (8, .ptr 0 0)] [{ c := [], e := 0, ext := false, fz := 0, pl := true, o := false, it := some (s_0, (0 : Nat)) }]) :: (cs 3 [.op none .a, .op none .c]))) [] (ps := [((.str s_0 : AV) = .str s_0), ((.int .i64 n_1 : AV) = .int .i64 n_1), ((.ptr 0 0 : AV) = .ptr 0 0), (s_0 = s_0 ∧ 0 = (0 : Nat)), (Does Tryd.prog GT 0 (.loop (bodyAt Tryd.prog 24 [1, 0, 1, 0, 0])) (S 22 [(0, .str s_0), (1, .int .i64 n_1), (8, .ptr 0 0)] [{ c := [], e := 0, ext := false, fz := 0, pl := true, o := false, it := some (s_0, (0 : Nat)) }]) (.exit 0) (S 22 [(0, .str s_0), (1, .int .i64 n_1)] []))]) (by kernel_rfl) (by kernel_rfl) ⟨rfl, rfl, rfl, ⟨rfl, rfl⟩, ok1 (tag_digits_L1_does s_0 n_1 hl1)⟩
theorem tag_digits_ret (s_0 : (List UInt8)) (n_1 : Int) (r : Bool) (h : tag_digits s_0 n_1 = some r) : Ret Tryd.prog GT 24 [.str s_0, .int .i64 n_1] (.bool r) [] := by
  unfold tag_digits at h
  obtain ⟨qq, hl1, h⟩ := bind_some h
  rcases qq with o1 | o1
  · dsimp only at h
    simp only [Option.some.injEq] at h
    subst h
    exact tag_digits_0 s_0 n_1 o1 hl1
  · dsimp only at h
    simp only [Option.some.injEq] at h
    subst h
    exact tag_digits_1 s_0 n_1 o1 hl1
noncomputable def tag_luhn_L1_step (s_0 : (List UInt8)) : (Int × Nat) → Option ((Int × Nat) ⊕ Int)
  | (v3, p0) =>
    if p0 < s_0.length then
      (some (dec s_0 p0)).bind fun r25 =>
      if InR .i32 ((↑r25.1 : Int) - 48) then
        if InR .i64 ((↑r25.1 : Int) - 48) then
          if (Int.tmod (↑p0 : Int) 2) = (0 : Int) then
            if InR .i64 (((↑r25.1 : Int) - 48) * 2) then
              if (((↑r25.1 : Int) - 48) * 2) > (9 : Int) then
                if InR .i64 ((((↑r25.1 : Int) - 48) * 2) - 9) then
                  if InR .i64 (v3 + ((((↑r25.1 : Int) - 48) * 2) - 9)) then
                    some (Sum.inl ((v3 + ((((↑r25.1 : Int) - 48) * 2) - 9)), (p0 + r25.2)))
                  else none
                else none
              else
                if InR .i64 (v3 + (((↑r25.1 : Int) - 48) * 2)) then
                  some (Sum.inl ((v3 + (((↑r25.1 : Int) - 48) * 2)), (p0 + r25.2)))
                else none
            else none
          else
            if InR .i64 (v3 + ((↑r25.1 : Int) - 48)) then
              some (Sum.inl ((v3 + ((↑r25.1 : Int) - 48)), (p0 + r25.2)))
            else none
        else none
      else none
    else
      some (Sum.inr v3)
def tag_luhn_L1_H (s_0 : (List UInt8)) : (Int × Nat) → St := fun (s : (Int × Nat)) => S 29 [(3, .int .i64 s.1), (8, .ptr 0 0)] [{ c := [], e := 0, ext := false, fz := 0, pl := true, o := false, it := some (s_0, s.2) }]
theorem tag_luhn_L1_0 (s_0 : (List UInt8)) (v3 : Int) (p0 : Nat) (c24 : p0 < s_0.length) (r25 : (Nat × Nat)) (h26 : some (dec s_0 p0) = some r25) (h27 : InR .i32 ((↑r25.1 : Int) - 48)) (h28 : InR .i64 ((↑r25.1 : Int) - 48)) (c29 : (Int.tmod (↑p0 : Int) 2) = (0 : Int)) (h30 : InR .i64 (((↑r25.1 : Int) - 48) * 2)) (c31 : (((↑r25.1 : Int) - 48) * 2) > (9 : Int)) (h32 : InR .i64 ((((↑r25.1 : Int) - 48) * 2) - 9)) (h33 : InR .i64 (v3 + ((((↑r25.1 : Int) - 48) * 2) - 9))) : Does Tryd.prog GT 0 (bodyAt Tryd.prog 27 [1, 1, 0, 1, 0, 0]) (tag_luhn_L1_H s_0 (v3, p0)) .normal (S 29 [(3, .int .i64 (v3 + ((((↑r25.1 : Int) - 48) * 2) - 9))), (8, .ptr 0 0)] [{ c := [], e := 0, ext := false, fz := 0, pl := true, o := false, it := some (s_0, (p0 + r25.2)) }]) :=
  Does.of_viewM 0 400 ((.op none (.m r25.1 r25.2)) :: (.op none .c) :: (.br true) :: (cs 5 ((.op none .w) :: (.op none .w) :: (cs 2 ((.op none .a) :: (.op none .a) :: (.br true) :: (.op none .c) :: (.op none .w) :: (cs 2 ((.op none .a) :: (.br true) :: (.op none .c) :: (.op none .w) :: (cs 3 [.op none .w, .op none .c])))))))) [0] (ps := [(p0 < s_0.length), (Utf8.decode ⟨s_0.toArray⟩ p0 = (r25.1, r25.2)), (true = true), (IntKind.min .i32 ≤ ((↑r25.1 : Int) - 48) ∧ ((↑r25.1 : Int) - 48) ≤ IntKind.max .i32), (IntKind.min .i64 ≤ ((↑r25.1 : Int) - 48) ∧ ((↑r25.1 : Int) - 48) ≤ IntKind.max .i64), (2 ≠ (0 : Int)), (((Int.tmod (↑p0 : Int) 2) == (0 : Int)) = true), (IntKind.min .i64 ≤ (((↑r25.1 : Int) - 48) * 2) ∧ (((↑r25.1 : Int) - 48) * 2) ≤ IntKind.max .i64), ((decide ((((↑r25.1 : Int) - 48) * 2) > (9 : Int))) = true), (IntKind.min .i64 ≤ ((((↑r25.1 : Int) - 48) * 2) - 9) ∧ ((((↑r25.1 : Int) - 48) * 2) - 9) ≤ IntKind.max .i64), (IntKind.min .i64 ≤ (v3 + ((((↑r25.1 : Int) - 48) * 2) - 9)) ∧ (v3 + ((((↑r25.1 : Int) - 48) * 2) - 9)) ≤ IntKind.max .i64)]) (by kernel_rfl) (by kernel_rfl) ⟨c24, (Option.some.inj h26), rfl, h27, h28, (by decide), (beq_t c29), h30, (decide_eq_true c31), h32, ok1 h33⟩
theorem tag_luhn_L1_1 (s_0 : (List UInt8)) (v3 : Int) (p0 : Nat) (c24 : p0 < s_0.length) (r25 : (Nat × Nat)) (h26 : some (dec s_0 p0) = some r25) (h27 : InR .i32 ((↑r25.1 : Int) - 48)) (h28 : InR .i64 ((↑r25.1 : Int) - 48)) (c29 : (Int.tmod (↑p0 : Int) 2) = (0 : Int)) (h30 : InR .i64 (((↑r25.1 : Int) - 48) * 2)) (c31 : ¬ ((((↑r25.1 : Int) - 48) * 2) > (9 : Int))) (h34 : InR .i64 (v3 + (((↑r25.1 : Int) - 48) * 2))) : Does Tryd.prog GT 0 (bodyAt Tryd.prog 27 [1, 1, 0, 1, 0, 0]) (tag_luhn_L1_H s_0 (v3, p0)) .normal (S 29 [(3, .int .i64 (v3 + (((↑r25.1 : Int) - 48) * 2))), (8, .ptr 0 0)] [{ c := [], e := 0, ext := false, fz := 0, pl := true, o := false, it := some (s_0, (p0 + r25.2)) }]) :=
  Does.of_viewM 0 400 ((.op none (.m r25.1 r25.2)) :: (.op none .c) :: (.br true) :: (cs 5 ((.op none .w) :: (.op none .w) :: (cs 2 ((.op none .a) :: (.op none .a) :: (.br true) :: (.op none .c) :: (.op none .w) :: (cs 2 ((.op none .a) :: (.br false) :: (cs 2 [.op none .w, .op none .c])))))))) [0] (ps := [(p0 < s_0.length), (Utf8.decode ⟨s_0.toArray⟩ p0 = (r25.1, r25.2)), (true = true), (IntKind.min .i32 ≤ ((↑r25.1 : Int) - 48) ∧ ((↑r25.1 : Int) - 48) ≤ IntKind.max .i32), (IntKind.min .i64 ≤ ((↑r25.1 : Int) - 48) ∧ ((↑r25.1 : Int) - 48) ≤ IntKind.max .i64), (2 ≠ (0 : Int)), (((Int.tmod (↑p0 : Int) 2) == (0 : Int)) = true), (IntKind.min .i64 ≤ (((↑r25.1 : Int) - 48) * 2) ∧ (((↑r25.1 : Int) - 48) * 2) ≤ IntKind.max .i64), ((decide ((((↑r25.1 : Int) - 48) * 2) > (9 : Int))) = false), (IntKind.min .i64 ≤ (v3 + (((↑r25.1 : Int) - 48) * 2)) ∧ (v3 + (((↑r25.1 : Int) - 48) * 2)) ≤ IntKind.max .i64)]) (by kernel_rfl) (by kernel_rfl) ⟨c24, (Option.some.inj h26), rfl, h27, h28, (by decide), (beq_t c29), h30, (decide_eq_false c31), ok1 h34⟩
theorem tag_luhn_L1_2 (s_0 : (List UInt8)) (v3 : Int) (p0 : Nat) (c24 : p0 < s_0.length) (r25 : (Nat × Nat)) (h26 : some (dec s_0 p0) = some r25) (h27 : InR .i32 ((↑r25.1 : Int) - 48)) (h28 : InR .i64 ((↑r25.1 : Int) - 48)) (c29 : ¬ ((Int.tmod (↑p0 : Int) 2) = (0 : Int))) (h35 : InR .i64 (v3 + ((↑r25.1 : Int) - 48))) : Does Tryd.prog GT 0 (bodyAt Tryd.prog 27 [1, 1, 0, 1, 0, 0]) (tag_luhn_L1_H s_0 (v3, p0)) .normal (S 29 [(3, .int .i64 (v3 + ((↑r25.1 : Int) - 48))), (8, .ptr 0 0)] [{ c := [], e := 0, ext := false, fz := 0, pl := true, o := false, it := some (s_0, (p0 + r25.2)) }]) :=
  Does.of_viewM 0 400 ((.op none (.m r25.1 r25.2)) :: (.op none .c) :: (.br true) :: (cs 5 ((.op none .w) :: (.op none .w) :: (cs 2 ((.op none .a) :: (.op none .a) :: (.br false) :: (cs 2 [.op none .w, .op none .c])))))) [0] (ps := [(p0 < s_0.length), (Utf8.decode ⟨s_0.toArray⟩ p0 = (r25.1, r25.2)), (true = true), (IntKind.min .i32 ≤ ((↑r25.1 : Int) - 48) ∧ ((↑r25.1 : Int) - 48) ≤ IntKind.max .i32), (IntKind.min .i64 ≤ ((↑r25.1 : Int) - 48) ∧ ((↑r25.1 : Int) - 48) ≤ IntKind.max .i64), (2 ≠ (0 : Int)), (((Int.tmod (↑p0 : Int) 2) == (0 : Int)) = false), (IntKind.min .i64 ≤ (v3 + ((↑r25.1 : Int) - 48)) ∧ (v3 + ((↑r25.1 : Int) - 48)) ≤ IntKind.max .i64)]) (by kernel_rfl) (by kernel_rfl) ⟨c24, (Option.some.inj h26), rfl, h27, h28, (by decide), (beq_f c29), ok1 h35⟩
theorem tag_luhn_L1_3 (s_0 : (List UInt8)) (v3 : Int) (p0 : Nat) (c24 : ¬ (p0 < s_0.length)) : Does Tryd.prog GT 0 (bodyAt Tryd.prog 27 [1, 1, 0, 1, 0, 0]) (tag_luhn_L1_H s_0 (v3, p0)) (.exit 0) (S 29 [(3, .int .i64 v3)] []) :=
  Does.of_viewM 0 400 [.op none (.b false), .op none .c, .br false] [] (ps := [(¬ p0 < s_0.length), (false = false)]) (by kernel_rfl) (by kernel_rfl) ⟨c24, ok1 rfl⟩
def tag_luhn_L1_X (s_0 : (List UInt8)) : Int → AEx := fun o => (.exit 0)
def tag_luhn_L1_E (s_0 : (List UInt8)) : Int → St := fun o => S 29 [(3, .int .i64 o)] []
theorem tag_luhn_L1_does (s_0 : (List UInt8)) {s : (Int × Nat)} {r : Int} (h : lp (tag_luhn_L1_step s_0) s = some r) : Does Tryd.prog GT 0 (.loop (bodyAt Tryd.prog 27 [1, 1, 0, 1, 0, 0])) (tag_luhn_L1_H s_0 s) (tag_luhn_L1_X s_0 r) (tag_luhn_L1_E s_0 r) := by
  refine Does.lp (H := tag_luhn_L1_H s_0) (X := tag_luhn_L1_X s_0) (E := tag_luhn_L1_E s_0) (fun s s2 h => ?_) (fun s r h => ?_) h
  · obtain ⟨v3, p0⟩ := s
    unfold tag_luhn_L1_step at h
    try dsimp only at h
    rcases ite_some h with ⟨c24, h⟩ | ⟨c24, h⟩
    · obtain ⟨r25, h26, h⟩ := bind_some h
      obtain ⟨h27, h⟩ := guard_some h
      obtain ⟨h28, h⟩ := guard_some h
      rcases ite_some h with ⟨c29, h⟩ | ⟨c29, h⟩
      · obtain ⟨h30, h⟩ := guard_some h
        rcases ite_some h with ⟨c31, h⟩ | ⟨c31, h⟩
        · obtain ⟨h32, h⟩ := guard_some h
          obtain ⟨h33, h⟩ := guard_some h
          simp only [Option.some.injEq, Sum.inl.injEq] at h
          subst h
          have hq := tag_luhn_L1_0 s_0 v3 p0 c24 r25 h26 h27 h28 c29 h30 c31 h32 h33
          first | exact hq | exact Eq.mp (by simp only [tag_luhn_L1_H, List.length_set] <;> rfl) hq
        · obtain ⟨h34, h⟩ := guard_some h
          simp only [Option.some.injEq, Sum.inl.injEq] at h
          subst h
          have hq := tag_luhn_L1_1 s_0 v3 p0 c24 r25 h26 h27 h28 c29 h30 c31 h34
          first | exact hq | exact Eq.mp (by simp only [tag_luhn_L1_H, List.length_set] <;> rfl) hq
      · obtain ⟨h35, h⟩ := guard_some h
        simp only [Option.some.injEq, Sum.inl.injEq] at h
        subst h
        have hq := tag_luhn_L1_2 s_0 v3 p0 c24 r25 h26 h27 h28 c29 h35
        first | exact hq | exact Eq.mp (by simp only [tag_luhn_L1_H, List.length_set] <;> rfl) hq
    · simp at h
  · obtain ⟨v3, p0⟩ := s
    unfold tag_luhn_L1_step at h
    try dsimp only at h
    rcases ite_some h with ⟨c24, h⟩ | ⟨c24, h⟩
    · obtain ⟨r25, h26, h⟩ := bind_some h
      obtain ⟨h27, h⟩ := guard_some h
      obtain ⟨h28, h⟩ := guard_some h
      rcases ite_some h with ⟨c29, h⟩ | ⟨c29, h⟩
      · obtain ⟨h30, h⟩ := guard_some h
        rcases ite_some h with ⟨c31, h⟩ | ⟨c31, h⟩
        · obtain ⟨h32, h⟩ := guard_some h
          obtain ⟨h33, h⟩ := guard_some h
          simp at h
        · obtain ⟨h34, h⟩ := guard_some h
          simp at h
      · obtain ⟨h35, h⟩ := guard_some h
        simp at h
    · simp only [Option.some.injEq, Sum.inr.injEq] at h
      subst h
      exact ⟨tag_luhn_L1_3 s_0 v3 p0 c24, by intro q; cases q⟩
noncomputable def tag_luhn (s_0 : (List UInt8)) : Option Int :=
  (lp (tag_luhn_L1_step s_0) ((0 : Int), (0 : Nat))).bind fun o1 =>
  some o1
theorem tag_luhn_0 (s_0 : (List UInt8)) (o1 : Int) (hl1 : lp (tag_luhn_L1_step s_0) ((0 : Int), (0 : Nat)) = some o1) : Ret Tryd.prog GT 27 [.str s_0] (.int .i64 o1) [] :=
  Ret.of_view 400 (cs 4 ((.fcut 0 (.exit 0) [(3, .int .i64 o1)] [] [0] [(3, .int .i64 (0 : Int)), (8, .ptr 0 0)] [{ c := [], e := 0, ext := false, fz := 0, pl := true, o := false, it := some (s_0, (0 : Nat)) }]) :: (cs 2 []))) [] (ps := [((.int .i64 0 : AV) = .int .i64 (0 : Int)), ((.ptr 0 0 : AV) = .ptr 0 0), (s_0 = s_0 ∧ 0 = (0 : Nat)), (Does Tryd.prog GT 0 (.loop (bodyAt Tryd.prog 27 [1, 1, 0, 1, 0, 0])) (S 29 [(3, .int .i64 (0 : Int)), (8, .ptr 0 0)] [{ c := [], e := 0, ext := false, fz := 0, pl := true, o := false, it := some (s_0, (0 : Nat)) }]) (.exit 0) (S 29 [(3, .int .i64 o1)] []))]) (by kernel_rfl) (by kernel_rfl) ⟨rfl, rfl, ⟨rfl, rfl⟩, ok1 (tag_luhn_L1_does s_0 hl1)⟩
theorem tag_luhn_ret (s_0 : (List UInt8)) (r : Int) (h : tag_luhn s_0 = some r) : Ret Tryd.prog GT 27 [.str s_0] (.int .i64 r) [] := by
  unfold tag_luhn at h
  obtain ⟨o1, hl1, h⟩ := bind_some h
  simp only [Option.some.injEq] at h
  subst h
  exact tag_luhn_0 s_0 o1 hl1
noncomputable def tag_Check (s_0 : (List UInt8)) : Option Int :=
  (tag_digits s_0 12).bind fun r1 =>
  if r1 = true then
    (tag_luhn s_0).bind fun r4 =>
    if (Int.tmod r4 10) = (0 : Int) then
      some 0
    else
      some 18
  else
    some 18
theorem tag_Check_0 (s_0 : (List UInt8)) (r1 : Bool) (h2 : tag_digits s_0 12 = some r1) (c3 : r1 = true) (r4 : Int) (h5 : tag_luhn s_0 = some r4) (c6 : (Int.tmod r4 10) = (0 : Int)) : Ret Tryd.prog GT 18 [.str s_0] (.int .i64 0) [] :=
  Ret.of_view 400 (cs 2 ((.ret none [.str s_0, .int .i64 12] (.bool r1) []) :: (cs 2 [.op (some false) .c, .ret none [.str s_0] (.int .i64 r4) [], .op none .a, .op none .a, .op none .c, .br false, .op none .c]))) [] (ps := [((.str s_0 : AV) = .str s_0), ((.int .i64 12 : AV) = .int .i64 12), (Ret Tryd.prog GT 24 [.str s_0, .int .i64 12] (.bool r1) []), ((!r1) = false), ((.str s_0 : AV) = .str s_0), (Ret Tryd.prog GT 27 [.str s_0] (.int .i64 r4) []), (10 ≠ (0 : Int)), ((!((Int.tmod r4 10) == (0 : Int))) = false)]) (by kernel_rfl) (by kernel_rfl) ⟨rfl, rfl, (tag_digits_ret s_0 12 r1 h2), (not_f c3), rfl, (tag_luhn_ret s_0 r4 h5), (by decide), ok1 (not_f (beq_t c6))⟩
theorem tag_Check_1 (s_0 : (List UInt8)) (r1 : Bool) (h2 : tag_digits s_0 12 = some r1) (c3 : r1 = true) (r4 : Int) (h5 : tag_luhn s_0 = some r4) (c6 : ¬ ((Int.tmod r4 10) = (0 : Int))) : Ret Tryd.prog GT 18 [.str s_0] (.int .i64 18) [] :=
  Ret.of_view 400 (cs 2 ((.ret none [.str s_0, .int .i64 12] (.bool r1) []) :: (cs 2 [.op (some false) .c, .ret none [.str s_0] (.int .i64 r4) [], .op none .a, .op none .a, .op none .c, .br true, .op none .c]))) [] (ps := [((.str s_0 : AV) = .str s_0), ((.int .i64 12 : AV) = .int .i64 12), (Ret Tryd.prog GT 24 [.str s_0, .int .i64 12] (.bool r1) []), ((!r1) = false), ((.str s_0 : AV) = .str s_0), (Ret Tryd.prog GT 27 [.str s_0] (.int .i64 r4) []), (10 ≠ (0 : Int)), ((!((Int.tmod r4 10) == (0 : Int))) = true)]) (by kernel_rfl) (by kernel_rfl) ⟨rfl, rfl, (tag_digits_ret s_0 12 r1 h2), (not_f c3), rfl, (tag_luhn_ret s_0 r4 h5), (by decide), ok1 (not_t (beq_f c6))⟩
theorem tag_Check_2 (s_0 : (List UInt8)) (r1 : Bool) (h2 : tag_digits s_0 12 = some r1) (c3 : ¬ (r1 = true)) : Ret Tryd.prog GT 18 [.str s_0] (.int .i64 18) [] :=
  Ret.of_view 400 (cs 2 ((.ret none [.str s_0, .int .i64 12] (.bool r1) []) :: (cs 2 ((.op (some true) .c) :: (cs 4 [.br true, .op none .c]))))) [] (ps := [((.str s_0 : AV) = .str s_0), ((.int .i64 12 : AV) = .int .i64 12), (Ret Tryd.prog GT 24 [.str s_0, .int .i64 12] (.bool r1) []), ((!r1) = true), (true = true)]) (by kernel_rfl) (by kernel_rfl) ⟨rfl, rfl, (tag_digits_ret s_0 12 r1 h2), (not_t (eq_false_of_ne_true c3)), ok1 rfl⟩
theorem tag_Check_ret (s_0 : (List UInt8)) (r : Int) (h : tag_Check s_0 = some r) : Ret Tryd.prog GT 18 [.str s_0] (.int .i64 r) [] := by
  unfold tag_Check at h
  obtain ⟨r1, h2, h⟩ := bind_some h
  rcases ite_some h with ⟨c3, h⟩ | ⟨c3, h⟩
  · obtain ⟨r4, h5, h⟩ := bind_some h
    rcases ite_some h with ⟨c6, h⟩ | ⟨c6, h⟩
    · simp only [Option.some.injEq] at h
      subst h
      exact tag_Check_0 s_0 r1 h2 c3 r4 h5 c6
    · simp only [Option.some.injEq] at h
      subst h
      exact tag_Check_1 s_0 r1 h2 c3 r4 h5 c6
  · simp only [Option.some.injEq] at h
    subst h
    exact tag_Check_2 s_0 r1 h2 c3
noncomputable def tag_Agency (s_0 : (List UInt8)) : Option ((List UInt8) × Int) :=
  (tag_Check s_0).bind fun r1 =>
  if r1 = (0 : Int) then
    if 3 ≤ s_0.length then
      some ((List.take 3 s_0), 0)
    else none
  else
    some (([] : List UInt8), r1)
theorem tag_Agency_0 (s_0 : (List UInt8)) (r1 : Int) (h2 : tag_Check s_0 = some r1) (c3 : r1 = (0 : Int)) (h4 : 3 ≤ s_0.length) : Ret Tryd.prog GT 19 [.str s_0] (.tup [.str (List.take 3 s_0), .int .i64 0]) [] :=
  Ret.of_view 400 (cs 3 ((.ret none [.str s_0] (.int .i64 r1) []) :: (cs 2 ((.op none .a) :: (.br false) :: (.op none .c) :: (.op none (.s 0 3)) :: (cs 2 []))))) [] (ps := [((.str s_0 : AV) = .str s_0), (Ret Tryd.prog GT 18 [.str s_0] (.int .i64 r1) []), ((!(r1 == (0 : Int))) = false), ((3 : Int) = ((3 : Nat) : Int)), (0 ≤ 3 ∧ 3 ≤ s_0.length)]) (by kernel_rfl) (by kernel_rfl) ⟨rfl, (tag_Check_ret s_0 r1 h2), (not_f (beq_t c3)), rfl, ok1 ⟨Nat.zero_le _, h4⟩⟩
theorem tag_Agency_1 (s_0 : (List UInt8)) (r1 : Int) (h2 : tag_Check s_0 = some r1) (c3 : ¬ (r1 = (0 : Int))) : Ret Tryd.prog GT 19 [.str s_0] (.tup [.str [], .int .i64 r1]) [] :=
  Ret.of_view 400 (cs 3 ((.ret none [.str s_0] (.int .i64 r1) []) :: (cs 2 ((.op none .a) :: (.br true) :: (cs 3 []))))) [] (ps := [((.str s_0 : AV) = .str s_0), (Ret Tryd.prog GT 18 [.str s_0] (.int .i64 r1) []), ((!(r1 == (0 : Int))) = true)]) (by kernel_rfl) (by kernel_rfl) ⟨rfl, (tag_Check_ret s_0 r1 h2), ok1 (not_t (beq_f c3))⟩
theorem tag_Agency_ret (s_0 : (List UInt8)) (r : ((List UInt8) × Int)) (h : tag_Agency s_0 = some r) : Ret Tryd.prog GT 19 [.str s_0] (.tup [.str r.1, .int .i64 r.2]) [] := by
  unfold tag_Agency at h
  obtain ⟨r1, h2, h⟩ := bind_some h
  rcases ite_some h with ⟨c3, h⟩ | ⟨c3, h⟩
  · obtain ⟨h4, h⟩ := guard_some h
    simp only [Option.some.injEq] at h
    subst h
    exact tag_Agency_0 s_0 r1 h2 c3 h4
  · simp only [Option.some.injEq] at h
    subst h
    exact tag_Agency_1 s_0 r1 h2 c3
noncomputable def tag_Serial_L6_step (s_0 : (List UInt8)) : (Int × Nat) → Option ((Int × Nat) ⊕ Int)
  | (v5, p0) =>
    if p0 < (List.drop 3 (List.take 11 s_0)).length then
      (some (dec (List.drop 3 (List.take 11 s_0)) p0)).bind fun r22 =>
      if InR .i64 (10 * v5) then
        if InR .i32 ((↑r22.1 : Int) - 48) then
          if InR .i64 ((↑r22.1 : Int) - 48) then
            if InR .i64 ((10 * v5) + ((↑r22.1 : Int) - 48)) then
              some (Sum.inl (((10 * v5) + ((↑r22.1 : Int) - 48)), (p0 + r22.2)))
            else none
          else none
        else none
      else none
    else
      some (Sum.inr v5)
def tag_Serial_L6_H (s_0 : (List UInt8)) : (Int × Nat) → St := fun (s : (Int × Nat)) => S 26 [(5, .int .i64 s.1), (15, .ptr 0 0)] [{ c := [], e := 0, ext := false, fz := 0, pl := true, o := false, it := some ((List.drop 3 (List.take 11 s_0)), s.2) }]
theorem tag_Serial_L6_0 (s_0 : (List UInt8)) (v5 : Int) (p0 : Nat) (c21 : p0 < (List.drop 3 (List.take 11 s_0)).length) (r22 : (Nat × Nat)) (h23 : some (dec (List.drop 3 (List.take 11 s_0)) p0) = some r22) (h24 : InR .i64 (10 * v5)) (h25 : InR .i32 ((↑r22.1 : Int) - 48)) (h26 : InR .i64 ((↑r22.1 : Int) - 48)) (h27 : InR .i64 ((10 * v5) + ((↑r22.1 : Int) - 48))) : Does Tryd.prog GT 0 (bodyAt Tryd.prog 20 [1, 1, 1, 0, 1, 0, 0]) (tag_Serial_L6_H s_0 (v5, p0)) .normal (S 26 [(5, .int .i64 ((10 * v5) + ((↑r22.1 : Int) - 48))), (15, .ptr 0 0)] [{ c := [], e := 0, ext := false, fz := 0, pl := true, o := false, it := some ((List.drop 3 (List.take 11 s_0)), (p0 + r22.2)) }]) :=
  Does.of_viewM 0 400 ((.op none (.m r22.1 r22.2)) :: (.op none .c) :: (.br true) :: (cs 3 [.op none .w, .op none .c, .op none .w, .op none .w, .op none .w, .op none .c])) [0] (ps := [(p0 < (List.drop 3 (List.take 11 s_0)).length), (Utf8.decode ⟨(List.drop 3 (List.take 11 s_0)).toArray⟩ p0 = (r22.1, r22.2)), (true = true), (IntKind.min .i64 ≤ (10 * v5) ∧ (10 * v5) ≤ IntKind.max .i64), (IntKind.min .i32 ≤ ((↑r22.1 : Int) - 48) ∧ ((↑r22.1 : Int) - 48) ≤ IntKind.max .i32), (IntKind.min .i64 ≤ ((↑r22.1 : Int) - 48) ∧ ((↑r22.1 : Int) - 48) ≤ IntKind.max .i64), (IntKind.min .i64 ≤ ((10 * v5) + ((↑r22.1 : Int) - 48)) ∧ ((10 * v5) + ((↑r22.1 : Int) - 48)) ≤ IntKind.max .i64)]) (by kernel_rfl) (by kernel_rfl) ⟨c21, (Option.some.inj h23), rfl, h24, h25, h26, ok1 h27⟩
theorem tag_Serial_L6_1 (s_0 : (List UInt8)) (v5 : Int) (p0 : Nat) (c21 : ¬ (p0 < (List.drop 3 (List.take 11 s_0)).length)) : Does Tryd.prog GT 0 (bodyAt Tryd.prog 20 [1, 1, 1, 0, 1, 0, 0]) (tag_Serial_L6_H s_0 (v5, p0)) (.exit 0) (S 26 [(5, .int .i64 v5)] []) :=
  Does.of_viewM 0 400 [.op none (.b false), .op none .c, .br false] [] (ps := [(¬ p0 < (List.drop 3 (List.take 11 s_0)).length), (false = false)]) (by kernel_rfl) (by kernel_rfl) ⟨c21, ok1 rfl⟩
def tag_Serial_L6_X (s_0 : (List UInt8)) : Int → AEx := fun o => (.exit 0)
def tag_Serial_L6_E (s_0 : (List UInt8)) : Int → St := fun o => S 26 [(5, .int .i64 o)] []
theorem tag_Serial_L6_does (s_0 : (List UInt8)) {s : (Int × Nat)} {r : Int} (h : lp (tag_Serial_L6_step s_0) s = some r) : Does Tryd.prog GT 0 (.loop (bodyAt Tryd.prog 20 [1, 1, 1, 0, 1, 0, 0])) (tag_Serial_L6_H s_0 s) (tag_Serial_L6_X s_0 r) (tag_Serial_L6_E s_0 r) := by
  refine Does.lp (H := tag_Serial_L6_H s_0) (X := tag_Serial_L6_X s_0) (E := tag_Serial_L6_E s_0) (fun s s2 h => ?_) (fun s r h => ?_) h
  · obtain ⟨v5, p0⟩ := s
    unfold tag_Serial_L6_step at h
    try dsimp only at h
    rcases ite_some h with ⟨c21, h⟩ | ⟨c21, h⟩
    · obtain ⟨r22, h23, h⟩ := bind_some h
      obtain ⟨h24, h⟩ := guard_some h
      obtain ⟨h25, h⟩ := guard_some h
      obtain ⟨h26, h⟩ := guard_some h
      obtain ⟨h27, h⟩ := guard_some h
      simp only [Option.some.injEq, Sum.inl.injEq] at h
      subst h
      have hq := tag_Serial_L6_0 s_0 v5 p0 c21 r22 h23 h24 h25 h26 h27
      first | exact hq | exact Eq.mp (by simp only [tag_Serial_L6_H, List.length_set] <;> rfl) hq
    · simp at h
  · obtain ⟨v5, p0⟩ := s
    unfold tag_Serial_L6_step at h
    try dsimp only at h
    rcases ite_some h with ⟨c21, h⟩ | ⟨c21, h⟩
    · obtain ⟨r22, h23, h⟩ := bind_some h
      obtain ⟨h24, h⟩ := guard_some h
      obtain ⟨h25, h⟩ := guard_some h
      obtain ⟨h26, h⟩ := guard_some h
      obtain ⟨h27, h⟩ := guard_some h
      simp at h
    · simp only [Option.some.injEq, Sum.inr.injEq] at h
      subst h
      exact ⟨tag_Serial_L6_1 s_0 v5 p0 c21, by intro q; cases q⟩
noncomputable def tag_Serial (s_0 : (List UInt8)) : Option (Int × Int) :=
  (tag_Check s_0).bind fun r1 =>
  if r1 = (0 : Int) then
    if 3 ≤ 11 then
      if 11 ≤ s_0.length then
        (lp (tag_Serial_L6_step s_0) ((0 : Int), (0 : Nat))).bind fun o6 =>
        some (o6, 0)
      else none
    else none
  else
    some (0, r1)
theorem tag_Serial_0 (s_0 : (List UInt8)) (r1 : Int) (h2 : tag_Check s_0 = some r1) (c3 : r1 = (0 : Int)) (h4 : 3 ≤ 11) (h5 : 11 ≤ s_0.length) (o6 : Int) (hl6 : lp (tag_Serial_L6_step s_0) ((0 : Int), (0 : Nat)) = some o6) : Ret Tryd.prog GT 20 [.str s_0] (.tup [.int .i64 o6, .int .i64 0]) [] :=
  Ret.of_view 400 (cs 3 ((.ret none [.str s_0] (.int .i64 r1) []) :: (cs 2 ((.op none .a) :: (.br false) :: (cs 2 ((.op none (.s 3 11)) :: (.op none .c) :: (.fcut 0 (.exit 0) [(5, .int .i64 o6)] [] [0] [(5, .int .i64 (0 : Int)), (15, .ptr 0 0)] [{ c := [], e := 0, ext := false, fz := 0, pl := true, o := false, it := some ((List.drop 3 (List.take 11 s_0)), (0 : Nat)) }]) :: (cs 3 []))))))) [] (ps := [((.str s_0 : AV) = .str s_0), (Ret Tryd.prog GT 18 [.str s_0] (.int .i64 r1) []), ((!(r1 == (0 : Int))) = false), ((11 : Int) = ((11 : Nat) : Int)), ((3 : Int) = ((3 : Nat) : Int)), (3 ≤ 11 ∧ 11 ≤ s_0.length), ((.int .i64 0 : AV) = .int .i64 (0 : Int)), ((.ptr 0 0 : AV) = .ptr 0 0), ((List.drop 3 (List.take 11 s_0)) = (List.drop 3 (List.take 11 s_0)) ∧ 0 = (0 : Nat)), (Does Tryd.prog GT 0 (.loop (bodyAt Tryd.prog 20 [1, 1, 1, 0, 1, 0, 0])) (S 26 [(5, .int .i64 (0 : Int)), (15, .ptr 0 0)] [{ c := [], e := 0, ext := false, fz := 0, pl := true, o := false, it := some ((List.drop 3 (List.take 11 s_0)), (0 : Nat)) }]) (.exit 0) (S 26 [(5, .int .i64 o6)] []))]) (by kernel_rfl) (by kernel_rfl) ⟨rfl, (tag_Check_ret s_0 r1 h2), (not_f (beq_t c3)), rfl, rfl, ⟨h4, h5⟩, rfl, rfl, ⟨rfl, rfl⟩, ok1 (tag_Serial_L6_does s_0 hl6)⟩
theorem tag_Serial_1 (s_0 : (List UInt8)) (r1 : Int) (h2 : tag_Check s_0 = some r1) (c3 : ¬ (r1 = (0 : Int))) : Ret Tryd.prog GT 20 [.str s_0] (.tup [.int .i64 0, .int .i64 r1]) [] :=
  Ret.of_view 400 (cs 3 ((.ret none [.str s_0] (.int .i64 r1) []) :: (cs 2 ((.op none .a) :: (.br true) :: (cs 3 []))))) [] (ps := [((.str s_0 : AV) = .str s_0), (Ret Tryd.prog GT 18 [.str s_0] (.int .i64 r1) []), ((!(r1 == (0 : Int))) = true)]) (by kernel_rfl) (by kernel_rfl) ⟨rfl, (tag_Check_ret s_0 r1 h2), ok1 (not_t (beq_f c3))⟩
theorem tag_Serial_ret (s_0 : (List UInt8)) (r : (Int × Int)) (h : tag_Serial s_0 = some r) : Ret Tryd.prog GT 20 [.str s_0] (.tup [.int .i64 r.1, .int .i64 r.2]) [] := by
  unfold tag_Serial at h
  obtain ⟨r1, h2, h⟩ := bind_some h
  rcases ite_some h with ⟨c3, h⟩ | ⟨c3, h⟩
  · obtain ⟨h4, h⟩ := guard_some h
    obtain ⟨h5, h⟩ := guard_some h
    obtain ⟨o6, hl6, h⟩ := bind_some h
    simp only [Option.some.injEq] at h
    subst h
    exact tag_Serial_0 s_0 r1 h2 c3 h4 h5 o6 hl6
  · simp only [Option.some.injEq] at h
    subst h
    exact tag_Serial_1 s_0 r1 h2 c3
noncomputable def tag_compare (a_0 : Tapi_TagState) (b_1 : Tapi_TagState) : Option Int :=
  (cmpF a_0.Tag b_1.Tag).bind fun r1 =>
  if a_0.From = a_0.From then
    if b_1.From = b_1.From then
      if a_0.From < b_1.From then
        if r1 = (0 : Int) then
          some (-1)
        else
          some r1
      else
        if a_0.From > b_1.From then
          if r1 = (0 : Int) then
            some 1
          else
            some r1
        else
          if r1 = (0 : Int) then
            some 0
          else
            some r1
    else
      if r1 = (0 : Int) then
        some 1
      else
        some r1
  else
    if b_1.From = b_1.From then
      if r1 = (0 : Int) then
        some (-1)
      else
        some r1
    else
      if r1 = (0 : Int) then
        some 0
      else
        some r1
theorem tag_compare_0 (a_0 : Tapi_TagState) (b_1 : Tapi_TagState) (r1 : Int) (h2 : cmpF a_0.Tag b_1.Tag = some r1) (c3 : a_0.From = a_0.From) (c4 : b_1.From = b_1.From) (c5 : a_0.From < b_1.From) (c6 : r1 = (0 : Int)) : Ret Tryd.prog GT 30 [.agg (Tapi_TagState.enc a_0), .agg (Tapi_TagState.enc b_1)] (.int .i64 (-1)) [] :=
  Ret.of_view 400 (cs 7 ((.ret none [.str a_0.Tag, .str b_1.Tag] (.int .i64 r1) []) :: (cs 11 ((.op none .a) :: (cs 7 ((.op none .a) :: (cs 3 ((.br false) :: (.op none .c) :: (.br false) :: (cs 2 ((.op none .a) :: (.br true) :: (cs 9 ((.br true) :: (cs 5 ((.op none .a) :: (.br false) :: (cs 3 ((.br true) :: (cs 6 ((.br true) :: (cs 3 []))))))))))))))))))) [] (ps := [((.str a_0.Tag : AV) = .str a_0.Tag), ((.str b_1.Tag : AV) = .str b_1.Tag), (Ret Tryd.prog GT 41 [.str a_0.Tag, .str b_1.Tag] (.int .i64 r1) []), ((!(a_0.From == a_0.From)) = false), ((!(b_1.From == b_1.From)) = false), ((decide (a_0.From < b_1.From)) = true), (true = true), ((!(r1 == (0 : Int))) = false), (true = true), (true = true), ((some (Ob.blk { c := [.int .i64 r1, .int .i64 (-1)], e := 3, ext := false, fz := 0, pl := true, o := false }) = some (Ob.blk { c := [.int .i64 r1, .int .i64 (-1)], e := 3, ext := false, fz := 0, pl := true, o := false })) ∧ True)]) (by kernel_rfl) (by kernel_rfl) ⟨rfl, rfl, (cmp_ret a_0.Tag b_1.Tag r1 h2), (not_f (beq_t c3)), (not_f (beq_t c4)), (decide_eq_true c5), rfl, (not_f (beq_t c6)), rfl, rfl, ok1 ⟨rfl, trivial⟩⟩
theorem tag_compare_1 (a_0 : Tapi_TagState) (b_1 : Tapi_TagState) (r1 : Int) (h2 : cmpF a_0.Tag b_1.Tag = some r1) (c3 : a_0.From = a_0.From) (c4 : b_1.From = b_1.From) (c5 : a_0.From < b_1.From) (c6 : ¬ (r1 = (0 : Int))) : Ret Tryd.prog GT 30 [.agg (Tapi_TagState.enc a_0), .agg (Tapi_TagState.enc b_1)] (.int .i64 r1) [] :=
  Ret.of_view 400 (cs 7 ((.ret none [.str a_0.Tag, .str b_1.Tag] (.int .i64 r1) []) :: (cs 11 ((.op none .a) :: (cs 7 ((.op none .a) :: (cs 3 ((.br false) :: (.op none .c) :: (.br false) :: (cs 2 ((.op none .a) :: (.br true) :: (cs 9 ((.br true) :: (cs 5 ((.op none .a) :: (.br true) :: (cs 3 []))))))))))))))) [] (ps := [((.str a_0.Tag : AV) = .str a_0.Tag), ((.str b_1.Tag : AV) = .str b_1.Tag), (Ret Tryd.prog GT 41 [.str a_0.Tag, .str b_1.Tag] (.int .i64 r1) []), ((!(a_0.From == a_0.From)) = false), ((!(b_1.From == b_1.From)) = false), ((decide (a_0.From < b_1.From)) = true), (true = true), ((!(r1 == (0 : Int))) = true), ((some (Ob.blk { c := [.int .i64 r1, .int .i64 (-1)], e := 3, ext := false, fz := 0, pl := true, o := false }) = some (Ob.blk { c := [.int .i64 r1, .int .i64 (-1)], e := 3, ext := false, fz := 0, pl := true, o := false })) ∧ True)]) (by kernel_rfl) (by kernel_rfl) ⟨rfl, rfl, (cmp_ret a_0.Tag b_1.Tag r1 h2), (not_f (beq_t c3)), (not_f (beq_t c4)), (decide_eq_true c5), rfl, (not_t (beq_f c6)), ok1 ⟨rfl, trivial⟩⟩
theorem tag_compare_2 (a_0 : Tapi_TagState) (b_1 : Tapi_TagState) (r1 : Int) (h2 : cmpF a_0.Tag b_1.Tag = some r1) (c3 : a_0.From = a_0.From) (c4 : b_1.From = b_1.From) (c5 : ¬ (a_0.From < b_1.From)) (c7 : a_0.From > b_1.From) (c8 : r1 = (0 : Int)) : Ret Tryd.prog GT 30 [.agg (Tapi_TagState.enc a_0), .agg (Tapi_TagState.enc b_1)] (.int .i64 1) [] :=
  Ret.of_view 400 (cs 7 ((.ret none [.str a_0.Tag, .str b_1.Tag] (.int .i64 r1) []) :: (cs 11 ((.op none .a) :: (cs 7 ((.op none .a) :: (cs 3 ((.br false) :: (.op none .c) :: (.br false) :: (cs 2 ((.op none .a) :: (.br false) :: (cs 2 ((.op none .a) :: (.br true) :: (cs 9 ((.br true) :: (cs 5 ((.op none .a) :: (.br false) :: (cs 3 ((.br true) :: (cs 6 ((.br true) :: (cs 3 []))))))))))))))))))))) [] (ps := [((.str a_0.Tag : AV) = .str a_0.Tag), ((.str b_1.Tag : AV) = .str b_1.Tag), (Ret Tryd.prog GT 41 [.str a_0.Tag, .str b_1.Tag] (.int .i64 r1) []), ((!(a_0.From == a_0.From)) = false), ((!(b_1.From == b_1.From)) = false), ((decide (a_0.From < b_1.From)) = false), ((decide (a_0.From > b_1.From)) = true), (true = true), ((!(r1 == (0 : Int))) = false), (true = true), (true = true), ((some (Ob.blk { c := [.int .i64 r1, .int .i64 1], e := 3, ext := false, fz := 0, pl := true, o := false }) = some (Ob.blk { c := [.int .i64 r1, .int .i64 1], e := 3, ext := false, fz := 0, pl := true, o := false })) ∧ True)]) (by kernel_rfl) (by kernel_rfl) ⟨rfl, rfl, (cmp_ret a_0.Tag b_1.Tag r1 h2), (not_f (beq_t c3)), (not_f (beq_t c4)), (decide_eq_false c5), (decide_eq_true c7), rfl, (not_f (beq_t c8)), rfl, rfl, ok1 ⟨rfl, trivial⟩⟩
theorem tag_compare_3 (a_0 : Tapi_TagState) (b_1 : Tapi_TagState) (r1 : Int) (h2 : cmpF a_0.Tag b_1.Tag = some r1) (c3 : a_0.From = a_0.From) (c4 : b_1.From = b_1.From) (c5 : ¬ (a_0.From < b_1.From)) (c7 : a_0.From > b_1.From) (c8 : ¬ (r1 = (0 : Int))) : Ret Tryd.prog GT 30 [.agg (Tapi_TagState.enc a_0), .agg (Tapi_TagState.enc b_1)] (.int .i64 r1) [] :=
  Ret.of_view 400 (cs 7 ((.ret none [.str a_0.Tag, .str b_1.Tag] (.int .i64 r1) []) :: (cs 11 ((.op none .a) :: (cs 7 ((.op none .a) :: (cs 3 ((.br false) :: (.op none .c) :: (.br false) :: (cs 2 ((.op none .a) :: (.br false) :: (cs 2 ((.op none .a) :: (.br true) :: (cs 9 ((.br true) :: (cs 5 ((.op none .a) :: (.br true) :: (cs 3 []))))))))))))))))) [] (ps := [((.str a_0.Tag : AV) = .str a_0.Tag), ((.str b_1.Tag : AV) = .str b_1.Tag), (Ret Tryd.prog GT 41 [.str a_0.Tag, .str b_1.Tag] (.int .i64 r1) []), ((!(a_0.From == a_0.From)) = false), ((!(b_1.From == b_1.From)) = false), ((decide (a_0.From < b_1.From)) = false), ((decide (a_0.From > b_1.From)) = true), (true = true), ((!(r1 == (0 : Int))) = true), ((some (Ob.blk { c := [.int .i64 r1, .int .i64 1], e := 3, ext := false, fz := 0, pl := true, o := false }) = some (Ob.blk { c := [.int .i64 r1, .int .i64 1], e := 3, ext := false, fz := 0, pl := true, o := false })) ∧ True)]) (by kernel_rfl) (by kernel_rfl) ⟨rfl, rfl, (cmp_ret a_0.Tag b_1.Tag r1 h2), (not_f (beq_t c3)), (not_f (beq_t c4)), (decide_eq_false c5), (decide_eq_true c7), rfl, (not_t (beq_f c8)), ok1 ⟨rfl, trivial⟩⟩
theorem tag_compare_4 (a_0 : Tapi_TagState) (b_1 : Tapi_TagState) (r1 : Int) (h2 : cmpF a_0.Tag b_1.Tag = some r1) (c3 : a_0.From = a_0.From) (c4 : b_1.From = b_1.From) (c5 : ¬ (a_0.From < b_1.From)) (c7 : ¬ (a_0.From > b_1.From)) (c9 : r1 = (0 : Int)) : Ret Tryd.prog GT 30 [.agg (Tapi_TagState.enc a_0), .agg (Tapi_TagState.enc b_1)] (.int .i64 0) [] :=
  Ret.of_view 400 (cs 7 ((.ret none [.str a_0.Tag, .str b_1.Tag] (.int .i64 r1) []) :: (cs 11 ((.op none .a) :: (cs 7 ((.op none .a) :: (cs 3 ((.br false) :: (.op none .c) :: (.br false) :: (cs 2 ((.op none .a) :: (.br false) :: (cs 2 ((.op none .a) :: (.br false) :: (cs 9 ((.br true) :: (cs 5 ((.op none .a) :: (.br false) :: (cs 3 ((.br true) :: (cs 6 ((.br false) :: (cs 3 ((.br false) :: (cs 3 []))))))))))))))))))))))) [] (ps := [((.str a_0.Tag : AV) = .str a_0.Tag), ((.str b_1.Tag : AV) = .str b_1.Tag), (Ret Tryd.prog GT 41 [.str a_0.Tag, .str b_1.Tag] (.int .i64 r1) []), ((!(a_0.From == a_0.From)) = false), ((!(b_1.From == b_1.From)) = false), ((decide (a_0.From < b_1.From)) = false), ((decide (a_0.From > b_1.From)) = false), (true = true), ((!(r1 == (0 : Int))) = false), (true = true), (false = false), (false = false), ((some (Ob.blk { c := [.int .i64 r1, .int .i64 0], e := 3, ext := false, fz := 0, pl := true, o := false }) = some (Ob.blk { c := [.int .i64 r1, .int .i64 0], e := 3, ext := false, fz := 0, pl := true, o := false })) ∧ True)]) (by kernel_rfl) (by kernel_rfl) ⟨rfl, rfl, (cmp_ret a_0.Tag b_1.Tag r1 h2), (not_f (beq_t c3)), (not_f (beq_t c4)), (decide_eq_false c5), (decide_eq_false c7), rfl, (not_f (beq_t c9)), rfl, rfl, rfl, ok1 ⟨rfl, trivial⟩⟩
theorem tag_compare_5 (a_0 : Tapi_TagState) (b_1 : Tapi_TagState) (r1 : Int) (h2 : cmpF a_0.Tag b_1.Tag = some r1) (c3 : a_0.From = a_0.From) (c4 : b_1.From = b_1.From) (c5 : ¬ (a_0.From < b_1.From)) (c7 : ¬ (a_0.From > b_1.From)) (c9 : ¬ (r1 = (0 : Int))) : Ret Tryd.prog GT 30 [.agg (Tapi_TagState.enc a_0), .agg (Tapi_TagState.enc b_1)] (.int .i64 r1) [] :=
  Ret.of_view 400 (cs 7 ((.ret none [.str a_0.Tag, .str b_1.Tag] (.int .i64 r1) []) :: (cs 11 ((.op none .a) :: (cs 7 ((.op none .a) :: (cs 3 ((.br false) :: (.op none .c) :: (.br false) :: (cs 2 ((.op none .a) :: (.br false) :: (cs 2 ((.op none .a) :: (.br false) :: (cs 9 ((.br true) :: (cs 5 ((.op none .a) :: (.br true) :: (cs 3 []))))))))))))))))) [] (ps := [((.str a_0.Tag : AV) = .str a_0.Tag), ((.str b_1.Tag : AV) = .str b_1.Tag), (Ret Tryd.prog GT 41 [.str a_0.Tag, .str b_1.Tag] (.int .i64 r1) []), ((!(a_0.From == a_0.From)) = false), ((!(b_1.From == b_1.From)) = false), ((decide (a_0.From < b_1.From)) = false), ((decide (a_0.From > b_1.From)) = false), (true = true), ((!(r1 == (0 : Int))) = true), ((some (Ob.blk { c := [.int .i64 r1, .int .i64 0], e := 3, ext := false, fz := 0, pl := true, o := false }) = some (Ob.blk { c := [.int .i64 r1, .int .i64 0], e := 3, ext := false, fz := 0, pl := true, o := false })) ∧ True)]) (by kernel_rfl) (by kernel_rfl) ⟨rfl, rfl, (cmp_ret a_0.Tag b_1.Tag r1 h2), (not_f (beq_t c3)), (not_f (beq_t c4)), (decide_eq_false c5), (decide_eq_false c7), rfl, (not_t (beq_f c9)), ok1 ⟨rfl, trivial⟩⟩
theorem tag_compare_6 (a_0 : Tapi_TagState) (b_1 : Tapi_TagState) (r1 : Int) (h2 : cmpF a_0.Tag b_1.Tag = some r1) (c3 : a_0.From = a_0.From) (c4 : ¬ (b_1.From = b_1.From)) (c10 : r1 = (0 : Int)) : Ret Tryd.prog GT 30 [.agg (Tapi_TagState.enc a_0), .agg (Tapi_TagState.enc b_1)] (.int .i64 1) [] :=
  Ret.of_view 400 (cs 7 ((.ret none [.str a_0.Tag, .str b_1.Tag] (.int .i64 r1) []) :: (cs 11 ((.op none .a) :: (cs 7 ((.op none .a) :: (cs 3 ((.br false) :: (.op none .c) :: (.br true) :: (cs 9 ((.br true) :: (cs 5 ((.op none .a) :: (.br false) :: (cs 3 ((.br true) :: (cs 6 ((.br true) :: (cs 3 []))))))))))))))))) [] (ps := [((.str a_0.Tag : AV) = .str a_0.Tag), ((.str b_1.Tag : AV) = .str b_1.Tag), (Ret Tryd.prog GT 41 [.str a_0.Tag, .str b_1.Tag] (.int .i64 r1) []), ((!(a_0.From == a_0.From)) = false), ((!(b_1.From == b_1.From)) = true), (true = true), ((!(r1 == (0 : Int))) = false), (true = true), (true = true), ((some (Ob.blk { c := [.int .i64 r1, .int .i64 1], e := 3, ext := false, fz := 0, pl := true, o := false }) = some (Ob.blk { c := [.int .i64 r1, .int .i64 1], e := 3, ext := false, fz := 0, pl := true, o := false })) ∧ True)]) (by kernel_rfl) (by kernel_rfl) ⟨rfl, rfl, (cmp_ret a_0.Tag b_1.Tag r1 h2), (not_f (beq_t c3)), (not_t (beq_f c4)), rfl, (not_f (beq_t c10)), rfl, rfl, ok1 ⟨rfl, trivial⟩⟩
theorem tag_compare_7 (a_0 : Tapi_TagState) (b_1 : Tapi_TagState) (r1 : Int) (h2 : cmpF a_0.Tag b_1.Tag = some r1) (c3 : a_0.From = a_0.From) (c4 : ¬ (b_1.From = b_1.From)) (c10 : ¬ (r1 = (0 : Int))) : Ret Tryd.prog GT 30 [.agg (Tapi_TagState.enc a_0), .agg (Tapi_TagState.enc b_1)] (.int .i64 r1) [] :=
  Ret.of_view 400 (cs 7 ((.ret none [.str a_0.Tag, .str b_1.Tag] (.int .i64 r1) []) :: (cs 11 ((.op none .a) :: (cs 7 ((.op none .a) :: (cs 3 ((.br false) :: (.op none .c) :: (.br true) :: (cs 9 ((.br true) :: (cs 5 ((.op none .a) :: (.br true) :: (cs 3 []))))))))))))) [] (ps := [((.str a_0.Tag : AV) = .str a_0.Tag), ((.str b_1.Tag : AV) = .str b_1.Tag), (Ret Tryd.prog GT 41 [.str a_0.Tag, .str b_1.Tag] (.int .i64 r1) []), ((!(a_0.From == a_0.From)) = false), ((!(b_1.From == b_1.From)) = true), (true = true), ((!(r1 == (0 : Int))) = true), ((some (Ob.blk { c := [.int .i64 r1, .int .i64 1], e := 3, ext := false, fz := 0, pl := true, o := false }) = some (Ob.blk { c := [.int .i64 r1, .int .i64 1], e := 3, ext := false, fz := 0, pl := true, o := false })) ∧ True)]) (by kernel_rfl) (by kernel_rfl) ⟨rfl, rfl, (cmp_ret a_0.Tag b_1.Tag r1 h2), (not_f (beq_t c3)), (not_t (beq_f c4)), rfl, (not_t (beq_f c10)), ok1 ⟨rfl, trivial⟩⟩
theorem tag_compare_8 (a_0 : Tapi_TagState) (b_1 : Tapi_TagState) (r1 : Int) (h2 : cmpF a_0.Tag b_1.Tag = some r1) (c3 : ¬ (a_0.From = a_0.From)) (c11 : b_1.From = b_1.From) (c12 : r1 = (0 : Int)) : Ret Tryd.prog GT 30 [.agg (Tapi_TagState.enc a_0), .agg (Tapi_TagState.enc b_1)] (.int .i64 (-1)) [] :=
  Ret.of_view 400 (cs 7 ((.ret none [.str a_0.Tag, .str b_1.Tag] (.int .i64 r1) []) :: (cs 11 ((.op none .a) :: (cs 7 ((.op none .a) :: (cs 3 ((.br true) :: (.op none .c) :: (.br false) :: (cs 9 ((.br true) :: (cs 5 ((.op none .a) :: (.br false) :: (cs 3 ((.br true) :: (cs 6 ((.br true) :: (cs 3 []))))))))))))))))) [] (ps := [((.str a_0.Tag : AV) = .str a_0.Tag), ((.str b_1.Tag : AV) = .str b_1.Tag), (Ret Tryd.prog GT 41 [.str a_0.Tag, .str b_1.Tag] (.int .i64 r1) []), ((!(a_0.From == a_0.From)) = true), ((!(b_1.From == b_1.From)) = false), (true = true), ((!(r1 == (0 : Int))) = false), (true = true), (true = true), ((some (Ob.blk { c := [.int .i64 r1, .int .i64 (-1)], e := 3, ext := false, fz := 0, pl := true, o := false }) = some (Ob.blk { c := [.int .i64 r1, .int .i64 (-1)], e := 3, ext := false, fz := 0, pl := true, o := false })) ∧ True)]) (by kernel_rfl) (by kernel_rfl) ⟨rfl, rfl, (cmp_ret a_0.Tag b_1.Tag r1 h2), (not_t (beq_f c3)), (not_f (beq_t c11)), rfl, (not_f (beq_t c12)), rfl, rfl, ok1 ⟨rfl, trivial⟩⟩
theorem tag_compare_9 (a_0 : Tapi_TagState) (b_1 : Tapi_TagState) (r1 : Int) (h2 : cmpF a_0.Tag b_1.Tag = some r1) (c3 : ¬ (a_0.From = a_0.From)) (c11 : b_1.From = b_1.From) (c12 : ¬ (r1 = (0 : Int))) : Ret Tryd.prog GT 30 [.agg (Tapi_TagState.enc a_0), .agg (Tapi_TagState.enc b_1)] (.int .i64 r1) [] :=
  Ret.of_view 400 (cs 7 ((.ret none [.str a_0.Tag, .str b_1.Tag] (.int .i64 r1) []) :: (cs 11 ((.op none .a) :: (cs 7 ((.op none .a) :: (cs 3 ((.br true) :: (.op none .c) :: (.br false) :: (cs 9 ((.br true) :: (cs 5 ((.op none .a) :: (.br true) :: (cs 3 []))))))))))))) [] (ps := [((.str a_0.Tag : AV) = .str a_0.Tag), ((.str b_1.Tag : AV) = .str b_1.Tag), (Ret Tryd.prog GT 41 [.str a_0.Tag, .str b_1.Tag] (.int .i64 r1) []), ((!(a_0.From == a_0.From)) = true), ((!(b_1.From == b_1.From)) = false), (true = true), ((!(r1 == (0 : Int))) = true), ((some (Ob.blk { c := [.int .i64 r1, .int .i64 (-1)], e := 3, ext := false, fz := 0, pl := true, o := false }) = some (Ob.blk { c := [.int .i64 r1, .int .i64 (-1)], e := 3, ext := false, fz := 0, pl := true, o := false })) ∧ True)]) (by kernel_rfl) (by kernel_rfl) ⟨rfl, rfl, (cmp_ret a_0.Tag b_1.Tag r1 h2), (not_t (beq_f c3)), (not_f (beq_t c11)), rfl, (not_t (beq_f c12)), ok1 ⟨rfl, trivial⟩⟩
theorem tag_compare_10 (a_0 : Tapi_TagState) (b_1 : Tapi_TagState) (r1 : Int) (h2 : cmpF a_0.Tag b_1.Tag = some r1) (c3 : ¬ (a_0.From = a_0.From)) (c11 : ¬ (b_1.From = b_1.From)) (c13 : r1 = (0 : Int)) : Ret Tryd.prog GT 30 [.agg (Tapi_TagState.enc a_0), .agg (Tapi_TagState.enc b_1)] (.int .i64 0) [] :=
  Ret.of_view 400 (cs 7 ((.ret none [.str a_0.Tag, .str b_1.Tag] (.int .i64 r1) []) :: (cs 11 ((.op none .a) :: (cs 7 ((.op none .a) :: (cs 3 ((.br true) :: (.op none .c) :: (.br true) :: (cs 9 ((.br true) :: (cs 5 ((.op none .a) :: (.br false) :: (cs 3 ((.br true) :: (cs 6 ((.br false) :: (cs 3 ((.br false) :: (cs 3 []))))))))))))))))))) [] (ps := [((.str a_0.Tag : AV) = .str a_0.Tag), ((.str b_1.Tag : AV) = .str b_1.Tag), (Ret Tryd.prog GT 41 [.str a_0.Tag, .str b_1.Tag] (.int .i64 r1) []), ((!(a_0.From == a_0.From)) = true), ((!(b_1.From == b_1.From)) = true), (true = true), ((!(r1 == (0 : Int))) = false), (true = true), (false = false), (false = false), ((some (Ob.blk { c := [.int .i64 r1, .int .i64 0], e := 3, ext := false, fz := 0, pl := true, o := false }) = some (Ob.blk { c := [.int .i64 r1, .int .i64 0], e := 3, ext := false, fz := 0, pl := true, o := false })) ∧ True)]) (by kernel_rfl) (by kernel_rfl) ⟨rfl, rfl, (cmp_ret a_0.Tag b_1.Tag r1 h2), (not_t (beq_f c3)), (not_t (beq_f c11)), rfl, (not_f (beq_t c13)), rfl, rfl, rfl, ok1 ⟨rfl, trivial⟩⟩
theorem tag_compare_11 (a_0 : Tapi_TagState) (b_1 : Tapi_TagState) (r1 : Int) (h2 : cmpF a_0.Tag b_1.Tag = some r1) (c3 : ¬ (a_0.From = a_0.From)) (c11 : ¬ (b_1.From = b_1.From)) (c13 : ¬ (r1 = (0 : Int))) : Ret Tryd.prog GT 30 [.agg (Tapi_TagState.enc a_0), .agg (Tapi_TagState.enc b_1)] (.int .i64 r1) [] :=
  Ret.of_view 400 (cs 7 ((.ret none [.str a_0.Tag, .str b_1.Tag] (.int .i64 r1) []) :: (cs 11 ((.op none .a) :: (cs 7 ((.op none .a) :: (cs 3 ((.br true) :: (.op none .c) :: (.br true) :: (cs 9 ((.br true) :: (cs 5 ((.op none .a) :: (.br true) :: (cs 3 []))))))))))))) [] (ps := [((.str a_0.Tag : AV) = .str a_0.Tag), ((.str b_1.Tag : AV) = .str b_1.Tag), (Ret Tryd.prog GT 41 [.str a_0.Tag, .str b_1.Tag] (.int .i64 r1) []), ((!(a_0.From == a_0.From)) = true), ((!(b_1.From == b_1.From)) = true), (true = true), ((!(r1 == (0 : Int))) = true), ((some (Ob.blk { c := [.int .i64 r1, .int .i64 0], e := 3, ext := false, fz := 0, pl := true, o := false }) = some (Ob.blk { c := [.int .i64 r1, .int .i64 0], e := 3, ext := false, fz := 0, pl := true, o := false })) ∧ True)]) (by kernel_rfl) (by kernel_rfl) ⟨rfl, rfl, (cmp_ret a_0.Tag b_1.Tag r1 h2), (not_t (beq_f c3)), (not_t (beq_f c11)), rfl, (not_t (beq_f c13)), ok1 ⟨rfl, trivial⟩⟩
theorem tag_compare_ret (a_0 : Tapi_TagState) (b_1 : Tapi_TagState) (r : Int) (h : tag_compare a_0 b_1 = some r) : Ret Tryd.prog GT 30 [.agg (Tapi_TagState.enc a_0), .agg (Tapi_TagState.enc b_1)] (.int .i64 r) [] := by
  unfold tag_compare at h
  obtain ⟨r1, h2, h⟩ := bind_some h
  rcases ite_some h with ⟨c3, h⟩ | ⟨c3, h⟩
  · rcases ite_some h with ⟨c4, h⟩ | ⟨c4, h⟩
    · rcases ite_some h with ⟨c5, h⟩ | ⟨c5, h⟩
      · rcases ite_some h with ⟨c6, h⟩ | ⟨c6, h⟩
        · simp only [Option.some.injEq] at h
          subst h
          exact tag_compare_0 a_0 b_1 r1 h2 c3 c4 c5 c6
        · simp only [Option.some.injEq] at h
          subst h
          exact tag_compare_1 a_0 b_1 r1 h2 c3 c4 c5 c6
      · rcases ite_some h with ⟨c7, h⟩ | ⟨c7, h⟩
        · rcases ite_some h with ⟨c8, h⟩ | ⟨c8, h⟩
          · simp only [Option.some.injEq] at h
            subst h
            exact tag_compare_2 a_0 b_1 r1 h2 c3 c4 c5 c7 c8
          · simp only [Option.some.injEq] at h
            subst h
            exact tag_compare_3 a_0 b_1 r1 h2 c3 c4 c5 c7 c8
        · rcases ite_some h with ⟨c9, h⟩ | ⟨c9, h⟩
          · simp only [Option.some.injEq] at h
            subst h
            exact tag_compare_4 a_0 b_1 r1 h2 c3 c4 c5 c7 c9
          · simp only [Option.some.injEq] at h
            subst h
            exact tag_compare_5 a_0 b_1 r1 h2 c3 c4 c5 c7 c9
    · rcases ite_some h with ⟨c10, h⟩ | ⟨c10, h⟩
      · simp only [Option.some.injEq] at h
        subst h
        exact tag_compare_6 a_0 b_1 r1 h2 c3 c4 c10
      · simp only [Option.some.injEq] at h
        subst h
        exact tag_compare_7 a_0 b_1 r1 h2 c3 c4 c10
  · rcases ite_some h with ⟨c11, h⟩ | ⟨c11, h⟩
    · rcases ite_some h with ⟨c12, h⟩ | ⟨c12, h⟩
      · simp only [Option.some.injEq] at h
        subst h
        exact tag_compare_8 a_0 b_1 r1 h2 c3 c11 c12
      · simp only [Option.some.injEq] at h
        subst h
        exact tag_compare_9 a_0 b_1 r1 h2 c3 c11 c12
    · rcases ite_some h with ⟨c13, h⟩ | ⟨c13, h⟩
      · simp only [Option.some.injEq] at h
        subst h
        exact tag_compare_10 a_0 b_1 r1 h2 c3 c11 c13
      · simp only [Option.some.injEq] at h
        subst h
        exact tag_compare_11 a_0 b_1 r1 h2 c3 c11 c13
noncomputable def tag_CheckAll_L2_step (l_0 : (List Tapi_TagState)) : Nat → Option (Nat ⊕ (Int ⊕ Unit)) := fun k11 =>
  if (↑k11 : Int) < (↑l_0.length : Int) then
    (l_0[k11]?).bind fun x24 =>
    (tag_Check x24.Tag).bind fun r26 =>
    if r26 = (0 : Int) then
      if x24.From < (0 : Int) then
        some (Sum.inr (Sum.inl 12))
      else
        if x24.From ≥ (68719476736 : Int) then
          some (Sum.inr (Sum.inl 12))
        else
          if x24.State < (1 : Int) then
            some (Sum.inr (Sum.inl 1))
          else
            if x24.State > (3 : Int) then
              some (Sum.inr (Sum.inl 1))
            else
              if (↑k11 : Int) > (0 : Int) then
                if InR .i64 ((↑k11 : Int) - 1) then
                  if (0 : Int) ≤ ((↑k11 : Int) - 1) then
                    (l_0[(Int.toNat ((↑k11 : Int) - 1))]?).bind fun x36 =>
                    (tag_compare x36 x24).bind fun r38 =>
                    if r38 ≥ (0 : Int) then
                      some (Sum.inr (Sum.inl 15))
                    else
                      if InR .i64 ((↑k11 : Int) + 1) then
                        some (Sum.inl (k11 + 1))
                      else none
                  else none
                else none
              else
                if InR .i64 ((↑k11 : Int) + 1) then
                  some (Sum.inl (k11 + 1))
                else none
    else
      some (Sum.inr (Sum.inl r26))
  else
    some (Sum.inr (Sum.inr (())))
def tag_CheckAll_L2_H (l_0 : (List Tapi_TagState)) : Nat → St := fun (s : Nat) => S 54 [(0, .lst (fl Tapi_TagState.enc l_0) l_0.length), (9, .lst (fl Tapi_TagState.enc l_0) l_0.length), (10, .int .i64 (↑l_0.length : Int)), (11, .int .i64 (↑s : Int))] []
theorem tag_CheckAll_L2_0 (l_0 : (List Tapi_TagState)) (k11 : Nat) (c23 : (↑k11 : Int) < (↑l_0.length : Int)) (x24 : Tapi_TagState) (h25 : l_0[k11]? = some x24) (r26 : Int) (h27 : tag_Check x24.Tag = some r26) (c28 : r26 = (0 : Int)) (c29 : x24.From < (0 : Int)) : Does Tryd.prog GT 0 (bodyAt Tryd.prog 14 [1, 1, 0, 1, 0, 0]) (tag_CheckAll_L2_H l_0 k11) .ret (S 54 [(2, .int .i64 12)] []) :=
  Does.of_viewM 0 400 ((.op none .a) :: (.br true) :: (.op none .c) :: (.op none (.i k11)) :: (.op none (.v [.str x24.Tag, .int .i64 x24.From, .int .i64 x24.State])) :: (cs 5 ((.ret none [.str x24.Tag] (.int .i64 r26) []) :: (cs 2 ((.op none .a) :: (.br false) :: (cs 2 ((.op none .a) :: (.op none .c) :: (.op (some true) .c) :: (cs 4 [.br true, .op none .c])))))))) [] (ps := [((decide ((↑k11 : Int) < (↑l_0.length : Int))) = true), ((↑k11 : Int) = ((k11 : Nat) : Int) ∧ k11 < l_0.length), ((fl Tapi_TagState.enc l_0) ≠ []), (sub (fl Tapi_TagState.enc l_0) (k11 * 3) 3 = [.str x24.Tag, .int .i64 x24.From, .int .i64 x24.State]), ((.str x24.Tag : AV) = .str x24.Tag), (Ret Tryd.prog GT 18 [.str x24.Tag] (.int .i64 r26) []), ((!(r26 == (0 : Int))) = false), ((decide (x24.From < (0 : Int))) = true), (true = true)]) (by kernel_rfl) (by kernel_rfl) ⟨(decide_eq_true c23), ⟨rfl, get_lt h25⟩, (fl_ne (f := Tapi_TagState.enc) (z := 2) (fun _ => rfl) h25), (fl_sub0 (f := Tapi_TagState.enc) (z := 3) (j := k11) (fun _ => rfl) h25 rfl), rfl, (tag_Check_ret x24.Tag r26 h27), (not_f (beq_t c28)), (decide_eq_true c29), ok1 rfl⟩
theorem tag_CheckAll_L2_1 (l_0 : (List Tapi_TagState)) (k11 : Nat) (c23 : (↑k11 : Int) < (↑l_0.length : Int)) (x24 : Tapi_TagState) (h25 : l_0[k11]? = some x24) (r26 : Int) (h27 : tag_Check x24.Tag = some r26) (c28 : r26 = (0 : Int)) (c29 : ¬ (x24.From < (0 : Int))) (c30 : x24.From ≥ (68719476736 : Int)) : Does Tryd.prog GT 0 (bodyAt Tryd.prog 14 [1, 1, 0, 1, 0, 0]) (tag_CheckAll_L2_H l_0 k11) .ret (S 54 [(2, .int .i64 12)] []) :=
  Does.of_viewM 0 400 ((.op none .a) :: (.br true) :: (.op none .c) :: (.op none (.i k11)) :: (.op none (.v [.str x24.Tag, .int .i64 x24.From, .int .i64 x24.State])) :: (cs 5 ((.ret none [.str x24.Tag] (.int .i64 r26) []) :: (cs 2 ((.op none .a) :: (.br false) :: (cs 2 ((.op none .a) :: (.op none .c) :: (.op (some false) .c) :: (.op none .c) :: (.op none .a) :: (cs 2 [.br true, .op none .c])))))))) [] (ps := [((decide ((↑k11 : Int) < (↑l_0.length : Int))) = true), ((↑k11 : Int) = ((k11 : Nat) : Int) ∧ k11 < l_0.length), ((fl Tapi_TagState.enc l_0) ≠ []), (sub (fl Tapi_TagState.enc l_0) (k11 * 3) 3 = [.str x24.Tag, .int .i64 x24.From, .int .i64 x24.State]), ((.str x24.Tag : AV) = .str x24.Tag), (Ret Tryd.prog GT 18 [.str x24.Tag] (.int .i64 r26) []), ((!(r26 == (0 : Int))) = false), ((decide (x24.From < (0 : Int))) = false), ((decide (x24.From ≥ (68719476736 : Int))) = true)]) (by kernel_rfl) (by kernel_rfl) ⟨(decide_eq_true c23), ⟨rfl, get_lt h25⟩, (fl_ne (f := Tapi_TagState.enc) (z := 2) (fun _ => rfl) h25), (fl_sub0 (f := Tapi_TagState.enc) (z := 3) (j := k11) (fun _ => rfl) h25 rfl), rfl, (tag_Check_ret x24.Tag r26 h27), (not_f (beq_t c28)), (decide_eq_false c29), ok1 (decide_eq_true c30)⟩
theorem tag_CheckAll_L2_2 (l_0 : (List Tapi_TagState)) (k11 : Nat) (c23 : (↑k11 : Int) < (↑l_0.length : Int)) (x24 : Tapi_TagState) (h25 : l_0[k11]? = some x24) (r26 : Int) (h27 : tag_Check x24.Tag = some r26) (c28 : r26 = (0 : Int)) (c29 : ¬ (x24.From < (0 : Int))) (c30 : ¬ (x24.From ≥ (68719476736 : Int))) (c31 : x24.State < (1 : Int)) : Does Tryd.prog GT 0 (bodyAt Tryd.prog 14 [1, 1, 0, 1, 0, 0]) (tag_CheckAll_L2_H l_0 k11) .ret (S 54 [(2, .int .i64 1)] []) :=
  Does.of_viewM 0 400 ((.op none .a) :: (.br true) :: (.op none .c) :: (.op none (.i k11)) :: (.op none (.v [.str x24.Tag, .int .i64 x24.From, .int .i64 x24.State])) :: (cs 5 ((.ret none [.str x24.Tag] (.int .i64 r26) []) :: (cs 2 ((.op none .a) :: (.br false) :: (cs 2 ((.op none .a) :: (.op none .c) :: (.op (some false) .c) :: (.op none .c) :: (.op none .a) :: (cs 2 ((.br false) :: (cs 2 ((.op none .a) :: (.op none .c) :: (.op (some true) .c) :: (cs 4 [.br true, .op none .c])))))))))))) [] (ps := [((decide ((↑k11 : Int) < (↑l_0.length : Int))) = true), ((↑k11 : Int) = ((k11 : Nat) : Int) ∧ k11 < l_0.length), ((fl Tapi_TagState.enc l_0) ≠ []), (sub (fl Tapi_TagState.enc l_0) (k11 * 3) 3 = [.str x24.Tag, .int .i64 x24.From, .int .i64 x24.State]), ((.str x24.Tag : AV) = .str x24.Tag), (Ret Tryd.prog GT 18 [.str x24.Tag] (.int .i64 r26) []), ((!(r26 == (0 : Int))) = false), ((decide (x24.From < (0 : Int))) = false), ((decide (x24.From ≥ (68719476736 : Int))) = false), ((decide (x24.State < (1 : Int))) = true), (true = true)]) (by kernel_rfl) (by kernel_rfl) ⟨(decide_eq_true c23), ⟨rfl, get_lt h25⟩, (fl_ne (f := Tapi_TagState.enc) (z := 2) (fun _ => rfl) h25), (fl_sub0 (f := Tapi_TagState.enc) (z := 3) (j := k11) (fun _ => rfl) h25 rfl), rfl, (tag_Check_ret x24.Tag r26 h27), (not_f (beq_t c28)), (decide_eq_false c29), (decide_eq_false c30), (decide_eq_true c31), ok1 rfl⟩
theorem tag_CheckAll_L2_3 (l_0 : (List Tapi_TagState)) (k11 : Nat) (c23 : (↑k11 : Int) < (↑l_0.length : Int)) (x24 : Tapi_TagState) (h25 : l_0[k11]? = some x24) (r26 : Int) (h27 : tag_Check x24.Tag = some r26) (c28 : r26 = (0 : Int)) (c29 : ¬ (x24.From < (0 : Int))) (c30 : ¬ (x24.From ≥ (68719476736 : Int))) (c31 : ¬ (x24.State < (1 : Int))) (c32 : x24.State > (3 : Int)) : Does Tryd.prog GT 0 (bodyAt Tryd.prog 14 [1, 1, 0, 1, 0, 0]) (tag_CheckAll_L2_H l_0 k11) .ret (S 54 [(2, .int .i64 1)] []) :=
  Does.of_viewM 0 400 ((.op none .a) :: (.br true) :: (.op none .c) :: (.op none (.i k11)) :: (.op none (.v [.str x24.Tag, .int .i64 x24.From, .int .i64 x24.State])) :: (cs 5 ((.ret none [.str x24.Tag] (.int .i64 r26) []) :: (cs 2 ((.op none .a) :: (.br false) :: (cs 2 ((.op none .a) :: (.op none .c) :: (.op (some false) .c) :: (.op none .c) :: (.op none .a) :: (cs 2 ((.br false) :: (cs 2 ((.op none .a) :: (.op none .c) :: (.op (some false) .c) :: (.op none .c) :: (.op none .a) :: (cs 2 [.br true, .op none .c])))))))))))) [] (ps := [((decide ((↑k11 : Int) < (↑l_0.length : Int))) = true), ((↑k11 : Int) = ((k11 : Nat) : Int) ∧ k11 < l_0.length), ((fl Tapi_TagState.enc l_0) ≠ []), (sub (fl Tapi_TagState.enc l_0) (k11 * 3) 3 = [.str x24.Tag, .int .i64 x24.From, .int .i64 x24.State]), ((.str x24.Tag : AV) = .str x24.Tag), (Ret Tryd.prog GT 18 [.str x24.Tag] (.int .i64 r26) []), ((!(r26 == (0 : Int))) = false), ((decide (x24.From < (0 : Int))) = false), ((decide (x24.From ≥ (68719476736 : Int))) = false), ((decide (x24.State < (1 : Int))) = false), ((decide (x24.State > (3 : Int))) = true)]) (by kernel_rfl) (by kernel_rfl) ⟨(decide_eq_true c23), ⟨rfl, get_lt h25⟩, (fl_ne (f := Tapi_TagState.enc) (z := 2) (fun _ => rfl) h25), (fl_sub0 (f := Tapi_TagState.enc) (z := 3) (j := k11) (fun _ => rfl) h25 rfl), rfl, (tag_Check_ret x24.Tag r26 h27), (not_f (beq_t c28)), (decide_eq_false c29), (decide_eq_false c30), (decide_eq_false c31), ok1 (decide_eq_true c32)⟩
theorem tag_CheckAll_L2_4 (l_0 : (List Tapi_TagState)) (k11 : Nat) (c23 : (↑k11 : Int) < (↑l_0.length : Int)) (x24 : Tapi_TagState) (h25 : l_0[k11]? = some x24) (r26 : Int) (h27 : tag_Check x24.Tag = some r26) (c28 : r26 = (0 : Int)) (c29 : ¬ (x24.From < (0 : Int))) (c30 : ¬ (x24.From ≥ (68719476736 : Int))) (c31 : ¬ (x24.State < (1 : Int))) (c32 : ¬ (x24.State > (3 : Int))) (c33 : (↑k11 : Int) > (0 : Int)) (h34 : InR .i64 ((↑k11 : Int) - 1)) (h35 : (0 : Int) ≤ ((↑k11 : Int) - 1)) (x36 : Tapi_TagState) (h37 : l_0[(Int.toNat ((↑k11 : Int) - 1))]? = some x36) (r38 : Int) (h39 : tag_compare x36 x24 = some r38) (c40 : r38 ≥ (0 : Int)) : Does Tryd.prog GT 0 (bodyAt Tryd.prog 14 [1, 1, 0, 1, 0, 0]) (tag_CheckAll_L2_H l_0 k11) .ret (S 54 [(2, .int .i64 15)] []) :=
  Does.of_viewM 0 400 ((.op none .a) :: (.br true) :: (.op none .c) :: (.op none (.i k11)) :: (.op none (.v [.str x24.Tag, .int .i64 x24.From, .int .i64 x24.State])) :: (cs 5 ((.ret none [.str x24.Tag] (.int .i64 r26) []) :: (cs 2 ((.op none .a) :: (.br false) :: (cs 2 ((.op none .a) :: (.op none .c) :: (.op (some false) .c) :: (.op none .c) :: (.op none .a) :: (cs 2 ((.br false) :: (cs 2 ((.op none .a) :: (.op none .c) :: (.op (some false) .c) :: (.op none .c) :: (.op none .a) :: (cs 2 [.br false, .op none .c, .op none .a, .op none .c, .op (some true) .c, .op (some true) .c, .op (some true) .w, .op (some true) (.i (Int.toNat ((↑k11 : Int) - 1))), .op (some true) (.v [.str x36.Tag, .int .i64 x36.From, .int .i64 x36.State]), .op (some true) .c, .ret (some true) [.agg (Tapi_TagState.enc x36), .agg (Tapi_TagState.enc x24)] (.int .i64 r38) [], .op (some true) .a, .op none (.b true), .op none .c, .br true, .op none .c])))))))))))) [] (ps := [((decide ((↑k11 : Int) < (↑l_0.length : Int))) = true), ((↑k11 : Int) = ((k11 : Nat) : Int) ∧ k11 < l_0.length), ((fl Tapi_TagState.enc l_0) ≠ []), (sub (fl Tapi_TagState.enc l_0) (k11 * 3) 3 = [.str x24.Tag, .int .i64 x24.From, .int .i64 x24.State]), ((.str x24.Tag : AV) = .str x24.Tag), (Ret Tryd.prog GT 18 [.str x24.Tag] (.int .i64 r26) []), ((!(r26 == (0 : Int))) = false), ((decide (x24.From < (0 : Int))) = false), ((decide (x24.From ≥ (68719476736 : Int))) = false), ((decide (x24.State < (1 : Int))) = false), ((decide (x24.State > (3 : Int))) = false), ((decide ((↑k11 : Int) > (0 : Int))) = true), ((decide ((↑k11 : Int) > (0 : Int))) = true), ((decide ((↑k11 : Int) > (0 : Int))) = true), (IntKind.min .i64 ≤ ((↑k11 : Int) - 1) ∧ ((↑k11 : Int) - 1) ≤ IntKind.max .i64), ((decide ((↑k11 : Int) > (0 : Int))) = true), (((↑k11 : Int) - 1) = (((Int.toNat ((↑k11 : Int) - 1)) : Nat) : Int) ∧ (Int.toNat ((↑k11 : Int) - 1)) < l_0.length), ((fl Tapi_TagState.enc l_0) ≠ []), ((decide ((↑k11 : Int) > (0 : Int))) = true), (sub (fl Tapi_TagState.enc l_0) ((Int.toNat ((↑k11 : Int) - 1)) * 3) 3 = [.str x36.Tag, .int .i64 x36.From, .int .i64 x36.State]), ((decide ((↑k11 : Int) > (0 : Int))) = true), ((decide ((↑k11 : Int) > (0 : Int))) = true), ((.agg (Tapi_TagState.enc x36) : AV) = .agg (Tapi_TagState.enc x36)), ((.agg (Tapi_TagState.enc x24) : AV) = .agg (Tapi_TagState.enc x24)), (Ret Tryd.prog GT 30 [.agg (Tapi_TagState.enc x36), .agg (Tapi_TagState.enc x24)] (.int .i64 r38) []), ((decide ((↑k11 : Int) > (0 : Int))) = true), ((decide ((↑k11 : Int) > (0 : Int))) = true), ((decide (r38 ≥ (0 : Int))) = true)]) (by kernel_rfl) (by kernel_rfl) ⟨(decide_eq_true c23), ⟨rfl, get_lt h25⟩, (fl_ne (f := Tapi_TagState.enc) (z := 2) (fun _ => rfl) h25), (fl_sub0 (f := Tapi_TagState.enc) (z := 3) (j := k11) (fun _ => rfl) h25 rfl), rfl, (tag_Check_ret x24.Tag r26 h27), (not_f (beq_t c28)), (decide_eq_false c29), (decide_eq_false c30), (decide_eq_false c31), (decide_eq_false c32), (decide_eq_true c33), (decide_eq_true c33), (decide_eq_true c33), h34, (decide_eq_true c33), ⟨(Int.toNat_of_nonneg h35).symm, get_lt h37⟩, (fl_ne (f := Tapi_TagState.enc) (z := 2) (fun _ => rfl) h37), (decide_eq_true c33), (fl_sub0 (f := Tapi_TagState.enc) (z := 3) (j := (Int.toNat ((↑k11 : Int) - 1))) (fun _ => rfl) h37 rfl), (decide_eq_true c33), (decide_eq_true c33), rfl, rfl, (tag_compare_ret x36 x24 r38 h39), (decide_eq_true c33), (decide_eq_true c33), ok1 (decide_eq_true c40)⟩
theorem tag_CheckAll_L2_5 (l_0 : (List Tapi_TagState)) (k11 : Nat) (c23 : (↑k11 : Int) < (↑l_0.length : Int)) (x24 : Tapi_TagState) (h25 : l_0[k11]? = some x24) (r26 : Int) (h27 : tag_Check x24.Tag = some r26) (c28 : r26 = (0 : Int)) (c29 : ¬ (x24.From < (0 : Int))) (c30 : ¬ (x24.From ≥ (68719476736 : Int))) (c31 : ¬ (x24.State < (1 : Int))) (c32 : ¬ (x24.State > (3 : Int))) (c33 : (↑k11 : Int) > (0 : Int)) (h34 : InR .i64 ((↑k11 : Int) - 1)) (h35 : (0 : Int) ≤ ((↑k11 : Int) - 1)) (x36 : Tapi_TagState) (h37 : l_0[(Int.toNat ((↑k11 : Int) - 1))]? = some x36) (r38 : Int) (h39 : tag_compare x36 x24 = some r38) (c40 : ¬ (r38 ≥ (0 : Int))) (h41 : InR .i64 ((↑k11 : Int) + 1)) : Does Tryd.prog GT 0 (bodyAt Tryd.prog 14 [1, 1, 0, 1, 0, 0]) (tag_CheckAll_L2_H l_0 k11) .normal (S 54 [(0, .lst (fl Tapi_TagState.enc l_0) l_0.length), (9, .lst (fl Tapi_TagState.enc l_0) l_0.length), (10, .int .i64 (↑l_0.length : Int)), (11, .int .i64 ((↑k11 : Int) + 1))] []) :=
  Does.of_viewM 0 400 ((.op none .a) :: (.br true) :: (.op none .c) :: (.op none (.i k11)) :: (.op none (.v [.str x24.Tag, .int .i64 x24.From, .int .i64 x24.State])) :: (cs 5 ((.ret none [.str x24.Tag] (.int .i64 r26) []) :: (cs 2 ((.op none .a) :: (.br false) :: (cs 2 ((.op none .a) :: (.op none .c) :: (.op (some false) .c) :: (.op none .c) :: (.op none .a) :: (cs 2 ((.br false) :: (cs 2 ((.op none .a) :: (.op none .c) :: (.op (some false) .c) :: (.op none .c) :: (.op none .a) :: (cs 2 [.br false, .op none .c, .op none .a, .op none .c, .op (some true) .c, .op (some true) .c, .op (some true) .w, .op (some true) (.i (Int.toNat ((↑k11 : Int) - 1))), .op (some true) (.v [.str x36.Tag, .int .i64 x36.From, .int .i64 x36.State]), .op (some true) .c, .ret (some true) [.agg (Tapi_TagState.enc x36), .agg (Tapi_TagState.enc x24)] (.int .i64 r38) [], .op (some true) .a, .op none (.b true), .op none .c, .br false, .op none .w, .op none .c])))))))))))) [] (ps := [((decide ((↑k11 : Int) < (↑l_0.length : Int))) = true), ((↑k11 : Int) = ((k11 : Nat) : Int) ∧ k11 < l_0.length), ((fl Tapi_TagState.enc l_0) ≠ []), (sub (fl Tapi_TagState.enc l_0) (k11 * 3) 3 = [.str x24.Tag, .int .i64 x24.From, .int .i64 x24.State]), ((.str x24.Tag : AV) = .str x24.Tag), (Ret Tryd.prog GT 18 [.str x24.Tag] (.int .i64 r26) []), ((!(r26 == (0 : Int))) = false), ((decide (x24.From < (0 : Int))) = false), ((decide (x24.From ≥ (68719476736 : Int))) = false), ((decide (x24.State < (1 : Int))) = false), ((decide (x24.State > (3 : Int))) = false), ((decide ((↑k11 : Int) > (0 : Int))) = true), ((decide ((↑k11 : Int) > (0 : Int))) = true), ((decide ((↑k11 : Int) > (0 : Int))) = true), (IntKind.min .i64 ≤ ((↑k11 : Int) - 1) ∧ ((↑k11 : Int) - 1) ≤ IntKind.max .i64), ((decide ((↑k11 : Int) > (0 : Int))) = true), (((↑k11 : Int) - 1) = (((Int.toNat ((↑k11 : Int) - 1)) : Nat) : Int) ∧ (Int.toNat ((↑k11 : Int) - 1)) < l_0.length), ((fl Tapi_TagState.enc l_0) ≠ []), ((decide ((↑k11 : Int) > (0 : Int))) = true), (sub (fl Tapi_TagState.enc l_0) ((Int.toNat ((↑k11 : Int) - 1)) * 3) 3 = [.str x36.Tag, .int .i64 x36.From, .int .i64 x36.State]), ((decide ((↑k11 : Int) > (0 : Int))) = true), ((decide ((↑k11 : Int) > (0 : Int))) = true), ((.agg (Tapi_TagState.enc x36) : AV) = .agg (Tapi_TagState.enc x36)), ((.agg (Tapi_TagState.enc x24) : AV) = .agg (Tapi_TagState.enc x24)), (Ret Tryd.prog GT 30 [.agg (Tapi_TagState.enc x36), .agg (Tapi_TagState.enc x24)] (.int .i64 r38) []), ((decide ((↑k11 : Int) > (0 : Int))) = true), ((decide ((↑k11 : Int) > (0 : Int))) = true), ((decide (r38 ≥ (0 : Int))) = false), (IntKind.min .i64 ≤ ((↑k11 : Int) + 1) ∧ ((↑k11 : Int) + 1) ≤ IntKind.max .i64)]) (by kernel_rfl) (by kernel_rfl) ⟨(decide_eq_true c23), ⟨rfl, get_lt h25⟩, (fl_ne (f := Tapi_TagState.enc) (z := 2) (fun _ => rfl) h25), (fl_sub0 (f := Tapi_TagState.enc) (z := 3) (j := k11) (fun _ => rfl) h25 rfl), rfl, (tag_Check_ret x24.Tag r26 h27), (not_f (beq_t c28)), (decide_eq_false c29), (decide_eq_false c30), (decide_eq_false c31), (decide_eq_false c32), (decide_eq_true c33), (decide_eq_true c33), (decide_eq_true c33), h34, (decide_eq_true c33), ⟨(Int.toNat_of_nonneg h35).symm, get_lt h37⟩, (fl_ne (f := Tapi_TagState.enc) (z := 2) (fun _ => rfl) h37), (decide_eq_true c33), (fl_sub0 (f := Tapi_TagState.enc) (z := 3) (j := (Int.toNat ((↑k11 : Int) - 1))) (fun _ => rfl) h37 rfl), (decide_eq_true c33), (decide_eq_true c33), rfl, rfl, (tag_compare_ret x36 x24 r38 h39), (decide_eq_true c33), (decide_eq_true c33), (decide_eq_false c40), ok1 h41⟩
theorem tag_CheckAll_L2_6 (l_0 : (List Tapi_TagState)) (k11 : Nat) (c23 : (↑k11 : Int) < (↑l_0.length : Int)) (x24 : Tapi_TagState) (h25 : l_0[k11]? = some x24) (r26 : Int) (h27 : tag_Check x24.Tag = some r26) (c28 : r26 = (0 : Int)) (c29 : ¬ (x24.From < (0 : Int))) (c30 : ¬ (x24.From ≥ (68719476736 : Int))) (c31 : ¬ (x24.State < (1 : Int))) (c32 : ¬ (x24.State > (3 : Int))) (c33 : ¬ ((↑k11 : Int) > (0 : Int))) (h42 : InR .i64 ((↑k11 : Int) + 1)) : Does Tryd.prog GT 0 (bodyAt Tryd.prog 14 [1, 1, 0, 1, 0, 0]) (tag_CheckAll_L2_H l_0 k11) .normal (S 54 [(0, .lst (fl Tapi_TagState.enc l_0) l_0.length), (9, .lst (fl Tapi_TagState.enc l_0) l_0.length), (10, .int .i64 (↑l_0.length : Int)), (11, .int .i64 ((↑k11 : Int) + 1))] []) :=
  Does.of_viewM 0 400 ((.op none .a) :: (.br true) :: (.op none .c) :: (.op none (.i k11)) :: (.op none (.v [.str x24.Tag, .int .i64 x24.From, .int .i64 x24.State])) :: (cs 5 ((.ret none [.str x24.Tag] (.int .i64 r26) []) :: (cs 2 ((.op none .a) :: (.br false) :: (cs 2 ((.op none .a) :: (.op none .c) :: (.op (some false) .c) :: (.op none .c) :: (.op none .a) :: (cs 2 ((.br false) :: (cs 2 ((.op none .a) :: (.op none .c) :: (.op (some false) .c) :: (.op none .c) :: (.op none .a) :: (cs 2 [.br false, .op none .c, .op none .a, .op none .c, .op (some false) .c, .op (some false) .c, .op (some false) .c, .op (some false) .c, .op (some false) .c, .op (some false) .c, .op (some false) .c, .op (some false) .c, .op none (.b false), .op none .c, .br false, .op none .w, .op none .c])))))))))))) [] (ps := [((decide ((↑k11 : Int) < (↑l_0.length : Int))) = true), ((↑k11 : Int) = ((k11 : Nat) : Int) ∧ k11 < l_0.length), ((fl Tapi_TagState.enc l_0) ≠ []), (sub (fl Tapi_TagState.enc l_0) (k11 * 3) 3 = [.str x24.Tag, .int .i64 x24.From, .int .i64 x24.State]), ((.str x24.Tag : AV) = .str x24.Tag), (Ret Tryd.prog GT 18 [.str x24.Tag] (.int .i64 r26) []), ((!(r26 == (0 : Int))) = false), ((decide (x24.From < (0 : Int))) = false), ((decide (x24.From ≥ (68719476736 : Int))) = false), ((decide (x24.State < (1 : Int))) = false), ((decide (x24.State > (3 : Int))) = false), ((decide ((↑k11 : Int) > (0 : Int))) = false), ((decide ((↑k11 : Int) > (0 : Int))) = false), ((decide ((↑k11 : Int) > (0 : Int))) = false), ((decide ((↑k11 : Int) > (0 : Int))) = false), ((decide ((↑k11 : Int) > (0 : Int))) = false), ((decide ((↑k11 : Int) > (0 : Int))) = false), ((decide ((↑k11 : Int) > (0 : Int))) = false), ((decide ((↑k11 : Int) > (0 : Int))) = false), ((decide ((↑k11 : Int) > (0 : Int))) = false), (false = false), (IntKind.min .i64 ≤ ((↑k11 : Int) + 1) ∧ ((↑k11 : Int) + 1) ≤ IntKind.max .i64)]) (by kernel_rfl) (by kernel_rfl) ⟨(decide_eq_true c23), ⟨rfl, get_lt h25⟩, (fl_ne (f := Tapi_TagState.enc) (z := 2) (fun _ => rfl) h25), (fl_sub0 (f := Tapi_TagState.enc) (z := 3) (j := k11) (fun _ => rfl) h25 rfl), rfl, (tag_Check_ret x24.Tag r26 h27), (not_f (beq_t c28)), (decide_eq_false c29), (decide_eq_false c30), (decide_eq_false c31), (decide_eq_false c32), (decide_eq_false c33), (decide_eq_false c33), (decide_eq_false c33), (decide_eq_false c33), (decide_eq_false c33), (decide_eq_false c33), (decide_eq_false c33), (decide_eq_false c33), (decide_eq_false c33), rfl, ok1 h42⟩
theorem tag_CheckAll_L2_7 (l_0 : (List Tapi_TagState)) (k11 : Nat) (c23 : (↑k11 : Int) < (↑l_0.length : Int)) (x24 : Tapi_TagState) (h25 : l_0[k11]? = some x24) (r26 : Int) (h27 : tag_Check x24.Tag = some r26) (c28 : ¬ (r26 = (0 : Int))) : Does Tryd.prog GT 0 (bodyAt Tryd.prog 14 [1, 1, 0, 1, 0, 0]) (tag_CheckAll_L2_H l_0 k11) .ret (S 54 [(2, .int .i64 r26)] []) :=
  Does.of_viewM 0 400 ((.op none .a) :: (.br true) :: (.op none .c) :: (.op none (.i k11)) :: (.op none (.v [.str x24.Tag, .int .i64 x24.From, .int .i64 x24.State])) :: (cs 5 ((.ret none [.str x24.Tag] (.int .i64 r26) []) :: (cs 2 ((.op none .a) :: (.br true) :: (cs 2 [])))))) [] (ps := [((decide ((↑k11 : Int) < (↑l_0.length : Int))) = true), ((↑k11 : Int) = ((k11 : Nat) : Int) ∧ k11 < l_0.length), ((fl Tapi_TagState.enc l_0) ≠ []), (sub (fl Tapi_TagState.enc l_0) (k11 * 3) 3 = [.str x24.Tag, .int .i64 x24.From, .int .i64 x24.State]), ((.str x24.Tag : AV) = .str x24.Tag), (Ret Tryd.prog GT 18 [.str x24.Tag] (.int .i64 r26) []), ((!(r26 == (0 : Int))) = true)]) (by kernel_rfl) (by kernel_rfl) ⟨(decide_eq_true c23), ⟨rfl, get_lt h25⟩, (fl_ne (f := Tapi_TagState.enc) (z := 2) (fun _ => rfl) h25), (fl_sub0 (f := Tapi_TagState.enc) (z := 3) (j := k11) (fun _ => rfl) h25 rfl), rfl, (tag_Check_ret x24.Tag r26 h27), ok1 (not_t (beq_f c28))⟩
theorem tag_CheckAll_L2_8 (l_0 : (List Tapi_TagState)) (k11 : Nat) (c23 : ¬ ((↑k11 : Int) < (↑l_0.length : Int))) : Does Tryd.prog GT 0 (bodyAt Tryd.prog 14 [1, 1, 0, 1, 0, 0]) (tag_CheckAll_L2_H l_0 k11) (.exit 0) (S 54 [] []) :=
  Does.of_viewM 0 400 [.op none .a, .br false] [] (ps := [((decide ((↑k11 : Int) < (↑l_0.length : Int))) = false)]) (by kernel_rfl) (by kernel_rfl) (ok1 (decide_eq_false c23))
def tag_CheckAll_L2_X (l_0 : (List Tapi_TagState)) : (Int ⊕ Unit) → AEx := fun q => match q with | Sum.inl o => .ret | Sum.inr (o) => (.exit 0)
def tag_CheckAll_L2_E (l_0 : (List Tapi_TagState)) : (Int ⊕ Unit) → St := fun q => match q with | Sum.inl o => S 54 [(2, .int .i64 o)] [] | Sum.inr (o) => S 54 [] []
theorem tag_CheckAll_L2_does (l_0 : (List Tapi_TagState)) {s : Nat} {r : Int ⊕ Unit} (h : lp (tag_CheckAll_L2_step l_0) s = some r) : Does Tryd.prog GT 0 (.loop (bodyAt Tryd.prog 14 [1, 1, 0, 1, 0, 0])) (tag_CheckAll_L2_H l_0 s) (tag_CheckAll_L2_X l_0 r) (tag_CheckAll_L2_E l_0 r) := by
  refine Does.lp (H := tag_CheckAll_L2_H l_0) (X := tag_CheckAll_L2_X l_0) (E := tag_CheckAll_L2_E l_0) (fun s s2 h => ?_) (fun s r h => ?_) h
  · revert h; revert s; intro k11 h
    unfold tag_CheckAll_L2_step at h
    try dsimp only at h
    rcases ite_some h with ⟨c23, h⟩ | ⟨c23, h⟩
    · obtain ⟨x24, h25, h⟩ := bind_some h
      obtain ⟨r26, h27, h⟩ := bind_some h
      rcases ite_some h with ⟨c28, h⟩ | ⟨c28, h⟩
      · rcases ite_some h with ⟨c29, h⟩ | ⟨c29, h⟩
        · simp at h
        · rcases ite_some h with ⟨c30, h⟩ | ⟨c30, h⟩
          · simp at h
          · rcases ite_some h with ⟨c31, h⟩ | ⟨c31, h⟩
            · simp at h
            · rcases ite_some h with ⟨c32, h⟩ | ⟨c32, h⟩
              · simp at h
              · rcases ite_some h with ⟨c33, h⟩ | ⟨c33, h⟩
                · obtain ⟨h34, h⟩ := guard_some h
                  obtain ⟨h35, h⟩ := guard_some h
                  obtain ⟨x36, h37, h⟩ := bind_some h
                  obtain ⟨r38, h39, h⟩ := bind_some h
                  rcases ite_some h with ⟨c40, h⟩ | ⟨c40, h⟩
                  · simp at h
                  · obtain ⟨h41, h⟩ := guard_some h
                    simp only [Option.some.injEq, Sum.inl.injEq] at h
                    subst h
                    have hq := tag_CheckAll_L2_5 l_0 k11 c23 x24 h25 r26 h27 c28 c29 c30 c31 c32 c33 h34 h35 x36 h37 r38 h39 c40 h41
                    first | exact hq | exact Eq.mp (by simp only [tag_CheckAll_L2_H, List.length_set] <;> rfl) hq
                · obtain ⟨h42, h⟩ := guard_some h
                  simp only [Option.some.injEq, Sum.inl.injEq] at h
                  subst h
                  have hq := tag_CheckAll_L2_6 l_0 k11 c23 x24 h25 r26 h27 c28 c29 c30 c31 c32 c33 h42
                  first | exact hq | exact Eq.mp (by simp only [tag_CheckAll_L2_H, List.length_set] <;> rfl) hq
      · simp at h
    · simp at h
  · revert h; revert s; intro k11 h
    unfold tag_CheckAll_L2_step at h
    try dsimp only at h
    rcases ite_some h with ⟨c23, h⟩ | ⟨c23, h⟩
    · obtain ⟨x24, h25, h⟩ := bind_some h
      obtain ⟨r26, h27, h⟩ := bind_some h
      rcases ite_some h with ⟨c28, h⟩ | ⟨c28, h⟩
      · rcases ite_some h with ⟨c29, h⟩ | ⟨c29, h⟩
        · simp only [Option.some.injEq, Sum.inr.injEq] at h
          subst h
          exact ⟨tag_CheckAll_L2_0 l_0 k11 c23 x24 h25 r26 h27 c28 c29, by intro q; cases q⟩
        · rcases ite_some h with ⟨c30, h⟩ | ⟨c30, h⟩
          · simp only [Option.some.injEq, Sum.inr.injEq] at h
            subst h
            exact ⟨tag_CheckAll_L2_1 l_0 k11 c23 x24 h25 r26 h27 c28 c29 c30, by intro q; cases q⟩
          · rcases ite_some h with ⟨c31, h⟩ | ⟨c31, h⟩
            · simp only [Option.some.injEq, Sum.inr.injEq] at h
              subst h
              exact ⟨tag_CheckAll_L2_2 l_0 k11 c23 x24 h25 r26 h27 c28 c29 c30 c31, by intro q; cases q⟩
            · rcases ite_some h with ⟨c32, h⟩ | ⟨c32, h⟩
              · simp only [Option.some.injEq, Sum.inr.injEq] at h
                subst h
                exact ⟨tag_CheckAll_L2_3 l_0 k11 c23 x24 h25 r26 h27 c28 c29 c30 c31 c32, by intro q; cases q⟩
              · rcases ite_some h with ⟨c33, h⟩ | ⟨c33, h⟩
                · obtain ⟨h34, h⟩ := guard_some h
                  obtain ⟨h35, h⟩ := guard_some h
                  obtain ⟨x36, h37, h⟩ := bind_some h
                  obtain ⟨r38, h39, h⟩ := bind_some h
                  rcases ite_some h with ⟨c40, h⟩ | ⟨c40, h⟩
                  · simp only [Option.some.injEq, Sum.inr.injEq] at h
                    subst h
                    exact ⟨tag_CheckAll_L2_4 l_0 k11 c23 x24 h25 r26 h27 c28 c29 c30 c31 c32 c33 h34 h35 x36 h37 r38 h39 c40, by intro q; cases q⟩
                  · obtain ⟨h41, h⟩ := guard_some h
                    simp at h
                · obtain ⟨h42, h⟩ := guard_some h
                  simp at h
      · simp only [Option.some.injEq, Sum.inr.injEq] at h
        subst h
        exact ⟨tag_CheckAll_L2_7 l_0 k11 c23 x24 h25 r26 h27 c28, by intro q; cases q⟩
    · simp only [Option.some.injEq, Sum.inr.injEq] at h
      subst h
      exact ⟨tag_CheckAll_L2_8 l_0 k11 c23, by intro q; cases q⟩
noncomputable def tag_CheckAll (l_0 : (List Tapi_TagState)) : Option Int :=
  if (↑l_0.length : Int) > (1024 : Int) then
    some 3
  else
    (lp (tag_CheckAll_L2_step l_0) (0 : Nat)).bind fun qq => match qq with
    | Sum.inl o2 =>
      some o2
    | Sum.inr (o2) =>
      some 0
theorem tag_CheckAll_0 (l_0 : (List Tapi_TagState)) (c1 : (↑l_0.length : Int) > (1024 : Int)) : Ret Tryd.prog GT 14 [.lst (fl Tapi_TagState.enc l_0) l_0.length] (.int .i64 3) [] :=
  Ret.of_view 400 (cs 3 [.op none .a, .br true, .op none .c]) [] (ps := [((decide ((↑l_0.length : Int) > (1024 : Int))) = true)]) (by kernel_rfl) (by kernel_rfl) (ok1 (decide_eq_true c1))
theorem tag_CheckAll_1 (l_0 : (List Tapi_TagState)) (c1 : ¬ ((↑l_0.length : Int) > (1024 : Int))) (o2 : Int) (hl2 : lp (tag_CheckAll_L2_step l_0) (0 : Nat) = some (Sum.inl o2)) : Ret Tryd.prog GT 14 [.lst (fl Tapi_TagState.enc l_0) l_0.length] (.int .i64 o2) [] :=
  Ret.of_view 400 (cs 3 ((.op none .a) :: (.br false) :: (cs 3 [.fcut 0 .ret [(2, .int .i64 o2)] [] [] [(0, .lst (fl Tapi_TagState.enc l_0) l_0.length), (9, .lst (fl Tapi_TagState.enc l_0) l_0.length), (10, .int .i64 (↑l_0.length : Int)), (11, .int .i64 (↑(0 : Nat) : Int))] []]))) [] (ps := [((decide ((↑l_0.length : Int) > (1024 : Int))) = false), ((.lst (fl Tapi_TagState.enc l_0) l_0.length : AV) = .lst (fl Tapi_TagState.enc l_0) l_0.length), ((.lst (fl Tapi_TagState.enc l_0) l_0.length : AV) = .lst (fl Tapi_TagState.enc l_0) l_0.length), ((.int .i64 (↑l_0.length : Int) : AV) = .int .i64 (↑l_0.length : Int)), ((.int .i64 0 : AV) = .int .i64 (↑(0 : Nat) : Int)), (Does Tryd.prog GT 0 (.loop (bodyAt Tryd.prog 14 [1, 1, 0, 1, 0, 0])) (S 54 [(0, .lst (fl Tapi_TagState.enc l_0) l_0.length), (9, .lst (fl Tapi_TagState.enc l_0) l_0.length), (10, .int .i64 (↑l_0.length : Int)), (11, .int .i64 (↑(0 : Nat) : Int))] []) .ret (S 54 [(2, .int .i64 o2)] []))]) (by kernel_rfl) (by kernel_rfl) ⟨(decide_eq_false c1), rfl, rfl, rfl, rfl, ok1 (tag_CheckAll_L2_does l_0 hl2)⟩
theorem tag_CheckAll_2 (l_0 : (List Tapi_TagState)) (c1 : ¬ ((↑l_0.length : Int) > (1024 : Int))) (o2 : Unit) (hl2 : lp (tag_CheckAll_L2_step l_0) (0 : Nat) = some (Sum.inr (o2))) : Ret Tryd.prog GT 14 [.lst (fl Tapi_TagState.enc l_0) l_0.length] (.int .i64 0) [] :=
  Ret.of_view 400 (cs 3 ((.op none .a) :: (.br false) :: (cs 3 [.fcut 0 (.exit 0) [] [] [] [(0, .lst (fl Tapi_TagState.enc l_0) l_0.length), (9, .lst (fl Tapi_TagState.enc l_0) l_0.length), (10, .int .i64 (↑l_0.length : Int)), (11, .int .i64 (↑(0 : Nat) : Int))] [], .op none .c]))) [] (ps := [((decide ((↑l_0.length : Int) > (1024 : Int))) = false), ((.lst (fl Tapi_TagState.enc l_0) l_0.length : AV) = .lst (fl Tapi_TagState.enc l_0) l_0.length), ((.lst (fl Tapi_TagState.enc l_0) l_0.length : AV) = .lst (fl Tapi_TagState.enc l_0) l_0.length), ((.int .i64 (↑l_0.length : Int) : AV) = .int .i64 (↑l_0.length : Int)), ((.int .i64 0 : AV) = .int .i64 (↑(0 : Nat) : Int)), (Does Tryd.prog GT 0 (.loop (bodyAt Tryd.prog 14 [1, 1, 0, 1, 0, 0])) (S 54 [(0, .lst (fl Tapi_TagState.enc l_0) l_0.length), (9, .lst (fl Tapi_TagState.enc l_0) l_0.length), (10, .int .i64 (↑l_0.length : Int)), (11, .int .i64 (↑(0 : Nat) : Int))] []) (.exit 0) (S 54 [] []))]) (by kernel_rfl) (by kernel_rfl) ⟨(decide_eq_false c1), rfl, rfl, rfl, rfl, ok1 (tag_CheckAll_L2_does l_0 hl2)⟩
theorem tag_CheckAll_ret (l_0 : (List Tapi_TagState)) (r : Int) (h : tag_CheckAll l_0 = some r) : Ret Tryd.prog GT 14 [.lst (fl Tapi_TagState.enc l_0) l_0.length] (.int .i64 r) [] := by
  unfold tag_CheckAll at h
  rcases ite_some h with ⟨c1, h⟩ | ⟨c1, h⟩
  · simp only [Option.some.injEq] at h
    subst h
    exact tag_CheckAll_0 l_0 c1
  · obtain ⟨qq, hl2, h⟩ := bind_some h
    rcases qq with o2 | o2
    · dsimp only at h
      simp only [Option.some.injEq] at h
      subst h
      exact tag_CheckAll_1 l_0 c1 o2 hl2
    · dsimp only at h
      simp only [Option.some.injEq] at h
      subst h
      exact tag_CheckAll_2 l_0 c1 o2 hl2
noncomputable def tag_State_L4_step (l_0 : (List Tapi_TagState)) (tag_1 : (List UInt8)) (t_2 : Int) : (Int × Nat) → Option ((Int × Nat) ⊕ Int)
  | (v7, k15) =>
    if (↑k15 : Int) < (↑l_0.length : Int) then
      (l_0[k15]?).bind fun x14 =>
      if x14.Tag = tag_1 then
        if x14.From ≤ t_2 then
          if InR .i64 ((↑k15 : Int) + 1) then
            some (Sum.inl (x14.State, (k15 + 1)))
          else none
        else
          if InR .i64 ((↑k15 : Int) + 1) then
            some (Sum.inl (v7, (k15 + 1)))
          else none
      else
        if InR .i64 ((↑k15 : Int) + 1) then
          some (Sum.inl (v7, (k15 + 1)))
        else none
    else
      some (Sum.inr v7)
def tag_State_L4_H (l_0 : (List Tapi_TagState)) (tag_1 : (List UInt8)) (t_2 : Int) : (Int × Nat) → St := fun (s : (Int × Nat)) => S 33 [(1, .str tag_1), (2, .int .i64 t_2), (7, .int .i64 s.1), (13, .lst (fl Tapi_TagState.enc l_0) l_0.length), (14, .int .i64 (↑l_0.length : Int)), (15, .int .i64 (↑s.2 : Int))] []
theorem tag_State_L4_0 (l_0 : (List Tapi_TagState)) (tag_1 : (List UInt8)) (t_2 : Int) (v7 : Int) (k15 : Nat) (c13 : (↑k15 : Int) < (↑l_0.length : Int)) (x14 : Tapi_TagState) (h15 : l_0[k15]? = some x14) (c16 : x14.Tag = tag_1) (c17 : x14.From ≤ t_2) (h18 : InR .i64 ((↑k15 : Int) + 1)) : Does Tryd.prog GT 0 (bodyAt Tryd.prog 16 [1, 1, 1, 0, 1, 0, 0]) (tag_State_L4_H l_0 tag_1 t_2 (v7, k15)) .normal (S 33 [(1, .str tag_1), (2, .int .i64 t_2), (7, .int .i64 x14.State), (13, .lst (fl Tapi_TagState.enc l_0) l_0.length), (14, .int .i64 (↑l_0.length : Int)), (15, .int .i64 ((↑k15 : Int) + 1))] []) :=
  Does.of_viewM 0 400 ((.op none .a) :: (.br true) :: (.op none (.i k15)) :: (.op none (.v [.str x14.Tag, .int .i64 x14.From, .int .i64 x14.State])) :: (cs 5 ((.op none .a) :: (.op none .c) :: (.op (some true) .c) :: (cs 2 ((.op none .a) :: (.op none .c) :: (.br true) :: (cs 3 [.op none .w, .op none .c])))))) [] (ps := [((decide ((↑k15 : Int) < (↑l_0.length : Int))) = true), ((↑k15 : Int) = ((k15 : Nat) : Int) ∧ k15 < l_0.length), ((fl Tapi_TagState.enc l_0) ≠ []), (sub (fl Tapi_TagState.enc l_0) (k15 * 3) 3 = [.str x14.Tag, .int .i64 x14.From, .int .i64 x14.State]), ((x14.Tag == tag_1) = true), ((decide (x14.From ≤ t_2)) = true), (IntKind.min .i64 ≤ ((↑k15 : Int) + 1) ∧ ((↑k15 : Int) + 1) ≤ IntKind.max .i64)]) (by kernel_rfl) (by kernel_rfl) ⟨(decide_eq_true c13), ⟨rfl, get_lt h15⟩, (fl_ne (f := Tapi_TagState.enc) (z := 2) (fun _ => rfl) h15), (fl_sub0 (f := Tapi_TagState.enc) (z := 3) (j := k15) (fun _ => rfl) h15 rfl), (beq_t c16), (decide_eq_true c17), ok1 h18⟩
theorem tag_State_L4_1 (l_0 : (List Tapi_TagState)) (tag_1 : (List UInt8)) (t_2 : Int) (v7 : Int) (k15 : Nat) (c13 : (↑k15 : Int) < (↑l_0.length : Int)) (x14 : Tapi_TagState) (h15 : l_0[k15]? = some x14) (c16 : x14.Tag = tag_1) (c17 : ¬ (x14.From ≤ t_2)) (h19 : InR .i64 ((↑k15 : Int) + 1)) : Does Tryd.prog GT 0 (bodyAt Tryd.prog 16 [1, 1, 1, 0, 1, 0, 0]) (tag_State_L4_H l_0 tag_1 t_2 (v7, k15)) .normal (S 33 [(1, .str tag_1), (2, .int .i64 t_2), (7, .int .i64 v7), (13, .lst (fl Tapi_TagState.enc l_0) l_0.length), (14, .int .i64 (↑l_0.length : Int)), (15, .int .i64 ((↑k15 : Int) + 1))] []) :=
  Does.of_viewM 0 400 ((.op none .a) :: (.br true) :: (.op none (.i k15)) :: (.op none (.v [.str x14.Tag, .int .i64 x14.From, .int .i64 x14.State])) :: (cs 5 ((.op none .a) :: (.op none .c) :: (.op (some true) .c) :: (cs 2 [.op none .a, .op none .c, .br false, .op none .w, .op none .c])))) [] (ps := [((decide ((↑k15 : Int) < (↑l_0.length : Int))) = true), ((↑k15 : Int) = ((k15 : Nat) : Int) ∧ k15 < l_0.length), ((fl Tapi_TagState.enc l_0) ≠ []), (sub (fl Tapi_TagState.enc l_0) (k15 * 3) 3 = [.str x14.Tag, .int .i64 x14.From, .int .i64 x14.State]), ((x14.Tag == tag_1) = true), ((decide (x14.From ≤ t_2)) = false), (IntKind.min .i64 ≤ ((↑k15 : Int) + 1) ∧ ((↑k15 : Int) + 1) ≤ IntKind.max .i64)]) (by kernel_rfl) (by kernel_rfl) ⟨(decide_eq_true c13), ⟨rfl, get_lt h15⟩, (fl_ne (f := Tapi_TagState.enc) (z := 2) (fun _ => rfl) h15), (fl_sub0 (f := Tapi_TagState.enc) (z := 3) (j := k15) (fun _ => rfl) h15 rfl), (beq_t c16), (decide_eq_false c17), ok1 h19⟩
theorem tag_State_L4_2 (l_0 : (List Tapi_TagState)) (tag_1 : (List UInt8)) (t_2 : Int) (v7 : Int) (k15 : Nat) (c13 : (↑k15 : Int) < (↑l_0.length : Int)) (x14 : Tapi_TagState) (h15 : l_0[k15]? = some x14) (c16 : ¬ (x14.Tag = tag_1)) (h20 : InR .i64 ((↑k15 : Int) + 1)) : Does Tryd.prog GT 0 (bodyAt Tryd.prog 16 [1, 1, 1, 0, 1, 0, 0]) (tag_State_L4_H l_0 tag_1 t_2 (v7, k15)) .normal (S 33 [(1, .str tag_1), (2, .int .i64 t_2), (7, .int .i64 v7), (13, .lst (fl Tapi_TagState.enc l_0) l_0.length), (14, .int .i64 (↑l_0.length : Int)), (15, .int .i64 ((↑k15 : Int) + 1))] []) :=
  Does.of_viewM 0 400 ((.op none .a) :: (.br true) :: (.op none (.i k15)) :: (.op none (.v [.str x14.Tag, .int .i64 x14.From, .int .i64 x14.State])) :: (cs 5 ((.op none .a) :: (.op none .c) :: (.op (some false) .c) :: (cs 4 [.br false, .op none .w, .op none .c])))) [] (ps := [((decide ((↑k15 : Int) < (↑l_0.length : Int))) = true), ((↑k15 : Int) = ((k15 : Nat) : Int) ∧ k15 < l_0.length), ((fl Tapi_TagState.enc l_0) ≠ []), (sub (fl Tapi_TagState.enc l_0) (k15 * 3) 3 = [.str x14.Tag, .int .i64 x14.From, .int .i64 x14.State]), ((x14.Tag == tag_1) = false), (false = false), (IntKind.min .i64 ≤ ((↑k15 : Int) + 1) ∧ ((↑k15 : Int) + 1) ≤ IntKind.max .i64)]) (by kernel_rfl) (by kernel_rfl) ⟨(decide_eq_true c13), ⟨rfl, get_lt h15⟩, (fl_ne (f := Tapi_TagState.enc) (z := 2) (fun _ => rfl) h15), (fl_sub0 (f := Tapi_TagState.enc) (z := 3) (j := k15) (fun _ => rfl) h15 rfl), (beq_f c16), rfl, ok1 h20⟩
theorem tag_State_L4_3 (l_0 : (List Tapi_TagState)) (tag_1 : (List UInt8)) (t_2 : Int) (v7 : Int) (k15 : Nat) (c13 : ¬ ((↑k15 : Int) < (↑l_0.length : Int))) : Does Tryd.prog GT 0 (bodyAt Tryd.prog 16 [1, 1, 1, 0, 1, 0, 0]) (tag_State_L4_H l_0 tag_1 t_2 (v7, k15)) (.exit 0) (S 33 [(7, .int .i64 v7)] []) :=
  Does.of_viewM 0 400 [.op none .a, .br false] [] (ps := [((decide ((↑k15 : Int) < (↑l_0.length : Int))) = false)]) (by kernel_rfl) (by kernel_rfl) (ok1 (decide_eq_false c13))
def tag_State_L4_X (l_0 : (List Tapi_TagState)) (tag_1 : (List UInt8)) (t_2 : Int) : Int → AEx := fun o => (.exit 0)
def tag_State_L4_E (l_0 : (List Tapi_TagState)) (tag_1 : (List UInt8)) (t_2 : Int) : Int → St := fun o => S 33 [(7, .int .i64 o)] []
theorem tag_State_L4_does (l_0 : (List Tapi_TagState)) (tag_1 : (List UInt8)) (t_2 : Int) {s : (Int × Nat)} {r : Int} (h : lp (tag_State_L4_step l_0 tag_1 t_2) s = some r) : Does Tryd.prog GT 0 (.loop (bodyAt Tryd.prog 16 [1, 1, 1, 0, 1, 0, 0])) (tag_State_L4_H l_0 tag_1 t_2 s) (tag_State_L4_X l_0 tag_1 t_2 r) (tag_State_L4_E l_0 tag_1 t_2 r) := by
  refine Does.lp (H := tag_State_L4_H l_0 tag_1 t_2) (X := tag_State_L4_X l_0 tag_1 t_2) (E := tag_State_L4_E l_0 tag_1 t_2) (fun s s2 h => ?_) (fun s r h => ?_) h
  · obtain ⟨v7, k15⟩ := s
    unfold tag_State_L4_step at h
    try dsimp only at h
    rcases ite_some h with ⟨c13, h⟩ | ⟨c13, h⟩
    · obtain ⟨x14, h15, h⟩ := bind_some h
      rcases ite_some h with ⟨c16, h⟩ | ⟨c16, h⟩
      · rcases ite_some h with ⟨c17, h⟩ | ⟨c17, h⟩
        · obtain ⟨h18, h⟩ := guard_some h
          simp only [Option.some.injEq, Sum.inl.injEq] at h
          subst h
          have hq := tag_State_L4_0 l_0 tag_1 t_2 v7 k15 c13 x14 h15 c16 c17 h18
          first | exact hq | exact Eq.mp (by simp only [tag_State_L4_H, List.length_set] <;> rfl) hq
        · obtain ⟨h19, h⟩ := guard_some h
          simp only [Option.some.injEq, Sum.inl.injEq] at h
          subst h
          have hq := tag_State_L4_1 l_0 tag_1 t_2 v7 k15 c13 x14 h15 c16 c17 h19
          first | exact hq | exact Eq.mp (by simp only [tag_State_L4_H, List.length_set] <;> rfl) hq
      · obtain ⟨h20, h⟩ := guard_some h
        simp only [Option.some.injEq, Sum.inl.injEq] at h
        subst h
        have hq := tag_State_L4_2 l_0 tag_1 t_2 v7 k15 c13 x14 h15 c16 h20
        first | exact hq | exact Eq.mp (by simp only [tag_State_L4_H, List.length_set] <;> rfl) hq
    · simp at h
  · obtain ⟨v7, k15⟩ := s
    unfold tag_State_L4_step at h
    try dsimp only at h
    rcases ite_some h with ⟨c13, h⟩ | ⟨c13, h⟩
    · obtain ⟨x14, h15, h⟩ := bind_some h
      rcases ite_some h with ⟨c16, h⟩ | ⟨c16, h⟩
      · rcases ite_some h with ⟨c17, h⟩ | ⟨c17, h⟩
        · obtain ⟨h18, h⟩ := guard_some h
          simp at h
        · obtain ⟨h19, h⟩ := guard_some h
          simp at h
      · obtain ⟨h20, h⟩ := guard_some h
        simp at h
    · simp only [Option.some.injEq, Sum.inr.injEq] at h
      subst h
      exact ⟨tag_State_L4_3 l_0 tag_1 t_2 v7 k15 c13, by intro q; cases q⟩
noncomputable def tag_State (l_0 : (List Tapi_TagState)) (tag_1 : (List UInt8)) (t_2 : Int) : Option Int :=
  (tag_Check tag_1).bind fun r1 =>
  if r1 = (0 : Int) then
    (lp (tag_State_L4_step l_0 tag_1 t_2) ((1 : Int), (0 : Nat))).bind fun o4 =>
    some o4
  else
    some 0
theorem tag_State_0 (l_0 : (List Tapi_TagState)) (tag_1 : (List UInt8)) (t_2 : Int) (r1 : Int) (h2 : tag_Check tag_1 = some r1) (c3 : r1 = (0 : Int)) (o4 : Int) (hl4 : lp (tag_State_L4_step l_0 tag_1 t_2) ((1 : Int), (0 : Nat)) = some o4) : Ret Tryd.prog GT 16 [.lst (fl Tapi_TagState.enc l_0) l_0.length, .str tag_1, .int .i64 t_2] (.int .i64 o4) [] :=
  Ret.of_view 400 (cs 2 ((.ret none [.str tag_1] (.int .i64 r1) []) :: (.op none .a) :: (.br false) :: (cs 4 ((.fcut 0 (.exit 0) [(7, .int .i64 o4)] [] [] [(1, .str tag_1), (2, .int .i64 t_2), (7, .int .i64 (1 : Int)), (13, .lst (fl Tapi_TagState.enc l_0) l_0.length), (14, .int .i64 (↑l_0.length : Int)), (15, .int .i64 (↑(0 : Nat) : Int))] []) :: (cs 2 []))))) [] (ps := [((.str tag_1 : AV) = .str tag_1), (Ret Tryd.prog GT 18 [.str tag_1] (.int .i64 r1) []), ((!(r1 == (0 : Int))) = false), ((.str tag_1 : AV) = .str tag_1), ((.int .i64 t_2 : AV) = .int .i64 t_2), ((.int .i64 1 : AV) = .int .i64 (1 : Int)), ((.lst (fl Tapi_TagState.enc l_0) l_0.length : AV) = .lst (fl Tapi_TagState.enc l_0) l_0.length), ((.int .i64 (↑l_0.length : Int) : AV) = .int .i64 (↑l_0.length : Int)), ((.int .i64 0 : AV) = .int .i64 (↑(0 : Nat) : Int)), (Does Tryd.prog GT 0 (.loop (bodyAt Tryd.prog 16 [1, 1, 1, 0, 1, 0, 0])) (S 33 [(1, .str tag_1), (2, .int .i64 t_2), (7, .int .i64 (1 : Int)), (13, .lst (fl Tapi_TagState.enc l_0) l_0.length), (14, .int .i64 (↑l_0.length : Int)), (15, .int .i64 (↑(0 : Nat) : Int))] []) (.exit 0) (S 33 [(7, .int .i64 o4)] []))]) (by kernel_rfl) (by kernel_rfl) ⟨rfl, (tag_Check_ret tag_1 r1 h2), (not_f (beq_t c3)), rfl, rfl, rfl, rfl, rfl, rfl, ok1 (tag_State_L4_does l_0 tag_1 t_2 hl4)⟩
theorem tag_State_1 (l_0 : (List Tapi_TagState)) (tag_1 : (List UInt8)) (t_2 : Int) (r1 : Int) (h2 : tag_Check tag_1 = some r1) (c3 : ¬ (r1 = (0 : Int))) : Ret Tryd.prog GT 16 [.lst (fl Tapi_TagState.enc l_0) l_0.length, .str tag_1, .int .i64 t_2] (.int .i64 0) [] :=
  Ret.of_view 400 (cs 2 [.ret none [.str tag_1] (.int .i64 r1) [], .op none .a, .br true, .op none .c]) [] (ps := [((.str tag_1 : AV) = .str tag_1), (Ret Tryd.prog GT 18 [.str tag_1] (.int .i64 r1) []), ((!(r1 == (0 : Int))) = true)]) (by kernel_rfl) (by kernel_rfl) ⟨rfl, (tag_Check_ret tag_1 r1 h2), ok1 (not_t (beq_f c3))⟩
theorem tag_State_ret (l_0 : (List Tapi_TagState)) (tag_1 : (List UInt8)) (t_2 : Int) (r : Int) (h : tag_State l_0 tag_1 t_2 = some r) : Ret Tryd.prog GT 16 [.lst (fl Tapi_TagState.enc l_0) l_0.length, .str tag_1, .int .i64 t_2] (.int .i64 r) [] := by
  unfold tag_State at h
  obtain ⟨r1, h2, h⟩ := bind_some h
  rcases ite_some h with ⟨c3, h⟩ | ⟨c3, h⟩
  · obtain ⟨o4, hl4, h⟩ := bind_some h
    simp only [Option.some.injEq] at h
    subst h
    exact tag_State_0 l_0 tag_1 t_2 r1 h2 c3 o4 hl4
  · simp only [Option.some.injEq] at h
    subst h
    exact tag_State_1 l_0 tag_1 t_2 r1 h2 c3
noncomputable def strings_Repeat (count_1 : Int) : Option (List UInt8) :=
  if count_1 = (0 : Int) then
    some ([] : List UInt8)
  else
    if count_1 = (1 : Int) then
      some ([48] : List UInt8)
    else
      if count_1 < (0 : Int) then
        none
      else
        if InR .u64 (count_1) then
          (some (IntKind.wrap .u64 ((BitVec.ofInt (IntKind.bits .u64) count_1 &&& BitVec.ofInt (IntKind.bits .u64) 4294967295).toNat : Int))).bind fun y5 =>
          if InR .u64 (1 * y5) then
            if InR .u64 (0 * y5) then
              if InR .u64 ((0 * y5) + (Int.fdiv (1 * y5) (2 ^ (min (Int.toNat 32) (IntKind.bits .u64))))) then
                (some ((0 * y5) + (Int.fdiv (1 * y5) (2 ^ (min (Int.toNat 32) (IntKind.bits .u64)))))).bind fun y10 =>
                (some (IntKind.wrap .u64 ((BitVec.ofInt (IntKind.bits .u64) y10 &&& BitVec.ofInt (IntKind.bits .u64) 4294967295).toNat : Int))).bind fun y12 =>
                if InR .u64 (1 * (Int.fdiv count_1 (2 ^ (min (Int.toNat 32) (IntKind.bits .u64))))) then
                  if InR .u64 (y12 + (1 * (Int.fdiv count_1 (2 ^ (min (Int.toNat 32) (IntKind.bits .u64)))))) then
                    (some (y12 + (1 * (Int.fdiv count_1 (2 ^ (min (Int.toNat 32) (IntKind.bits .u64))))))).bind fun y16 =>
                    if InR .u64 (0 * (Int.fdiv count_1 (2 ^ (min (Int.toNat 32) (IntKind.bits .u64))))) then
                      if InR .u64 ((0 * (Int.fdiv count_1 (2 ^ (min (Int.toNat 32) (IntKind.bits .u64))))) + (Int.fdiv y10 (2 ^ (min (Int.toNat 32) (IntKind.bits .u64))))) then
                        (some ((0 * (Int.fdiv count_1 (2 ^ (min (Int.toNat 32) (IntKind.bits .u64))))) + (Int.fdiv y10 (2 ^ (min (Int.toNat 32) (IntKind.bits .u64)))))).bind fun y20 =>
                        if InR .u64 (y20 + (Int.fdiv y16 (2 ^ (min (Int.toNat 32) (IntKind.bits .u64))))) then
                          if InR .u64 (1 * count_1) then
                            if (y20 + (Int.fdiv y16 (2 ^ (min (Int.toNat 32) (IntKind.bits .u64))))) > (0 : Int) then
                              none
                            else
                              if (1 * count_1) > (9223372036854775807 : Int) then
                                none
                              else
                                if InR .i64 (1 * count_1) then
                                  if (1 * count_1) ≤ (128 : Int) then
                                    if (1 * count_1) ≤ (64 : Int) then
                                      if (0 : Int) ≤ (1 * count_1) then
                                        if (Int.toNat (1 * count_1)) ≤ 64 then
                                          some (List.take (Int.toNat (1 * count_1)) strc_0)
                                        else none
                                      else none
                                    else
                                      if (1 * count_1) > (8192 : Int) then
                                        none
                                      else
                                        none
                                  else
                                    if (1 * count_1) ≤ (64 : Int) then
                                      if (0 : Int) ≤ (1 * count_1) then
                                        if (Int.toNat (1 * count_1)) ≤ 64 then
                                          some (List.take (Int.toNat (1 * count_1)) strc_0)
                                        else none
                                      else none
                                    else
                                      if (1 * count_1) > (8192 : Int) then
                                        none
                                      else
                                        none
                                else none
                          else none
                        else none
                      else none
                    else none
                  else none
                else none
              else none
            else none
          else none
        else none
theorem strings_Repeat_0 (count_1 : Int) (c1 : count_1 = (0 : Int)) : Ret Tryd.prog GT 26 [.str [48], .int .i64 count_1] (.str []) [] :=
  Ret.of_view 400 (cs 2 [.op none .a, .op none .c, .br true, .op none .c]) [] (ps := [((count_1 == (0 : Int)) = true)]) (by kernel_rfl) (by kernel_rfl) (ok1 (beq_t c1))
theorem strings_Repeat_1 (count_1 : Int) (c1 : ¬ (count_1 = (0 : Int))) (c2 : count_1 = (1 : Int)) : Ret Tryd.prog GT 26 [.str [48], .int .i64 count_1] (.str [48]) [] :=
  Ret.of_view 400 (cs 2 ((.op none .a) :: (.op none .c) :: (.br false) :: (.op none .a) :: (.op none .c) :: (.br true) :: (cs 2 []))) [] (ps := [((count_1 == (0 : Int)) = false), ((count_1 == (1 : Int)) = true)]) (by kernel_rfl) (by kernel_rfl) ⟨(beq_f c1), ok1 (beq_t c2)⟩
theorem strings_Repeat_5 (count_1 : Int) (c1 : ¬ (count_1 = (0 : Int))) (c2 : ¬ (count_1 = (1 : Int))) (c3 : ¬ (count_1 < (0 : Int))) (h4 : InR .u64 (count_1)) (y5 : Int) (h6 : some (IntKind.wrap .u64 ((BitVec.ofInt (IntKind.bits .u64) count_1 &&& BitVec.ofInt (IntKind.bits .u64) 4294967295).toNat : Int)) = some y5) (h7 : InR .u64 (1 * y5)) (h8 : InR .u64 (0 * y5)) (h9 : InR .u64 ((0 * y5) + (Int.fdiv (1 * y5) (2 ^ (min (Int.toNat 32) (IntKind.bits .u64)))))) (y10 : Int) (h11 : some ((0 * y5) + (Int.fdiv (1 * y5) (2 ^ (min (Int.toNat 32) (IntKind.bits .u64))))) = some y10) (y12 : Int) (h13 : some (IntKind.wrap .u64 ((BitVec.ofInt (IntKind.bits .u64) y10 &&& BitVec.ofInt (IntKind.bits .u64) 4294967295).toNat : Int)) = some y12) (h14 : InR .u64 (1 * (Int.fdiv count_1 (2 ^ (min (Int.toNat 32) (IntKind.bits .u64)))))) (h15 : InR .u64 (y12 + (1 * (Int.fdiv count_1 (2 ^ (min (Int.toNat 32) (IntKind.bits .u64))))))) (y16 : Int) (h17 : some (y12 + (1 * (Int.fdiv count_1 (2 ^ (min (Int.toNat 32) (IntKind.bits .u64)))))) = some y16) (h18 : InR .u64 (0 * (Int.fdiv count_1 (2 ^ (min (Int.toNat 32) (IntKind.bits .u64)))))) (h19 : InR .u64 ((0 * (Int.fdiv count_1 (2 ^ (min (Int.toNat 32) (IntKind.bits .u64))))) + (Int.fdiv y10 (2 ^ (min (Int.toNat 32) (IntKind.bits .u64)))))) (y20 : Int) (h21 : some ((0 * (Int.fdiv count_1 (2 ^ (min (Int.toNat 32) (IntKind.bits .u64))))) + (Int.fdiv y10 (2 ^ (min (Int.toNat 32) (IntKind.bits .u64))))) = some y20) (h22 : InR .u64 (y20 + (Int.fdiv y16 (2 ^ (min (Int.toNat 32) (IntKind.bits .u64)))))) (h23 : InR .u64 (1 * count_1)) (c24 : ¬ ((y20 + (Int.fdiv y16 (2 ^ (min (Int.toNat 32) (IntKind.bits .u64))))) > (0 : Int))) (c25 : ¬ ((1 * count_1) > (9223372036854775807 : Int))) (h26 : InR .i64 (1 * count_1)) (c27 : (1 * count_1) ≤ (128 : Int)) (c28 : (1 * count_1) ≤ (64 : Int)) (h29 : (0 : Int) ≤ (1 * count_1)) (h30 : (Int.toNat (1 * count_1)) ≤ 64) : Ret Tryd.prog GT 26 [.str [48], .int .i64 count_1] (.str (List.take (Int.toNat (1 * count_1)) strc_0)) [] :=
  Ret.of_view 400 (cs 2 ((.op none .a) :: (.op none .c) :: (.br false) :: (.op none .a) :: (.op none .c) :: (.br false) :: (.op none .c) :: (.op none .a) :: (.br false) :: (cs 4 ((.op none .w) :: (cs 3 ((.br false) :: (cs 12 ((.op none .a) :: (.tr (.eqt (.t 19) (.int .u64 y5))) :: (cs 2 ((.op none .a) :: (cs 3 ((.op none .w) :: (cs 3 ((.op none .w) :: (.op none .c) :: (.op none .a) :: (.op none .w) :: (.tr (.eqt (.t 30) (.int .u64 y10))) :: (cs 2 ((.op none .a) :: (.tr (.eqt (.t 32) (.int .u64 y12))) :: (cs 2 ((.op none .a) :: (cs 4 ((.op none .w) :: (.op none .w) :: (.tr (.eqt (.t 39) (.int .u64 y16))) :: (cs 3 ((.op none .w) :: (.op none .c) :: (.op none .w) :: (.tr (.eqt (.t 44) (.int .u64 y20))) :: (.op none .c) :: (.op none .a) :: (.op none .w) :: (cs 3 ((.op none .w) :: (cs 16 ((.op none .a) :: (.op none .c) :: (.op (some false) .c) :: (.op none .a) :: (.op none .c) :: (.br false) :: (.op none .c) :: (.op none .w) :: (cs 4 ((.br false) :: (cs 4 ((.br false) :: (cs 2 ((.br false) :: (cs 2 ((.br true) :: (.br true) :: (.op none .c) :: (.op none .a) :: (.op none .c) :: (.op (some true) .c) :: (cs 23 ((.br false) :: (.op none .c) :: (.op none .a) :: (.op none .c) :: (.op (some true) .c) :: (cs 23 ((.br false) :: (.op none .c) :: (.op none .a) :: (.op none .c) :: (.op (some true) .c) :: (cs 23 [.br true, .op none .c, .op none (.s 0 (Int.toNat (1 * count_1))), .op none .c]))))))))))))))))))))))))))))))))))))))) [] (ps := [((count_1 == (0 : Int)) = false), ((count_1 == (1 : Int)) = false), ((decide (count_1 < (0 : Int))) = false), (IntKind.min .u64 ≤ count_1 ∧ count_1 ≤ IntKind.max .u64), (false = false), ((.int .u64 (IntKind.wrap .u64 ((BitVec.ofInt (IntKind.bits .u64) count_1 &&& BitVec.ofInt (IntKind.bits .u64) 4294967295).toNat : Int)) : AV) = .int .u64 y5), ((0 : Int) ≤ 32), (IntKind.min .u64 ≤ (1 * y5) ∧ (1 * y5) ≤ IntKind.max .u64), (IntKind.min .u64 ≤ (0 * y5) ∧ (0 * y5) ≤ IntKind.max .u64), ((0 : Int) ≤ 32), (IntKind.min .u64 ≤ ((0 * y5) + (Int.fdiv (1 * y5) (2 ^ (min (Int.toNat 32) (IntKind.bits .u64))))) ∧ ((0 * y5) + (Int.fdiv (1 * y5) (2 ^ (min (Int.toNat 32) (IntKind.bits .u64))))) ≤ IntKind.max .u64), ((.int .u64 ((0 * y5) + (Int.fdiv (1 * y5) (2 ^ (min (Int.toNat 32) (IntKind.bits .u64))))) : AV) = .int .u64 y10), ((.int .u64 (IntKind.wrap .u64 ((BitVec.ofInt (IntKind.bits .u64) y10 &&& BitVec.ofInt (IntKind.bits .u64) 4294967295).toNat : Int)) : AV) = .int .u64 y12), ((0 : Int) ≤ 32), (IntKind.min .u64 ≤ (1 * (Int.fdiv count_1 (2 ^ (min (Int.toNat 32) (IntKind.bits .u64))))) ∧ (1 * (Int.fdiv count_1 (2 ^ (min (Int.toNat 32) (IntKind.bits .u64))))) ≤ IntKind.max .u64), (IntKind.min .u64 ≤ (y12 + (1 * (Int.fdiv count_1 (2 ^ (min (Int.toNat 32) (IntKind.bits .u64)))))) ∧ (y12 + (1 * (Int.fdiv count_1 (2 ^ (min (Int.toNat 32) (IntKind.bits .u64)))))) ≤ IntKind.max .u64), ((.int .u64 (y12 + (1 * (Int.fdiv count_1 (2 ^ (min (Int.toNat 32) (IntKind.bits .u64)))))) : AV) = .int .u64 y16), (IntKind.min .u64 ≤ (0 * (Int.fdiv count_1 (2 ^ (min (Int.toNat 32) (IntKind.bits .u64))))) ∧ (0 * (Int.fdiv count_1 (2 ^ (min (Int.toNat 32) (IntKind.bits .u64))))) ≤ IntKind.max .u64), (IntKind.min .u64 ≤ ((0 * (Int.fdiv count_1 (2 ^ (min (Int.toNat 32) (IntKind.bits .u64))))) + (Int.fdiv y10 (2 ^ (min (Int.toNat 32) (IntKind.bits .u64))))) ∧ ((0 * (Int.fdiv count_1 (2 ^ (min (Int.toNat 32) (IntKind.bits .u64))))) + (Int.fdiv y10 (2 ^ (min (Int.toNat 32) (IntKind.bits .u64))))) ≤ IntKind.max .u64), ((.int .u64 ((0 * (Int.fdiv count_1 (2 ^ (min (Int.toNat 32) (IntKind.bits .u64))))) + (Int.fdiv y10 (2 ^ (min (Int.toNat 32) (IntKind.bits .u64))))) : AV) = .int .u64 y20), ((0 : Int) ≤ 32), (IntKind.min .u64 ≤ (y20 + (Int.fdiv y16 (2 ^ (min (Int.toNat 32) (IntKind.bits .u64))))) ∧ (y20 + (Int.fdiv y16 (2 ^ (min (Int.toNat 32) (IntKind.bits .u64))))) ≤ IntKind.max .u64), (IntKind.min .u64 ≤ (1 * count_1) ∧ (1 * count_1) ≤ IntKind.max .u64), ((decide ((y20 + (Int.fdiv y16 (2 ^ (min (Int.toNat 32) (IntKind.bits .u64))))) > (0 : Int))) = false), ((decide ((1 * count_1) > (9223372036854775807 : Int))) = false), (IntKind.min .i64 ≤ (1 * count_1) ∧ (1 * count_1) ≤ IntKind.max .i64), (false = false), (false = false), (false = false), (true = true), (true = true), ((decide ((1 * count_1) ≤ (128 : Int))) = true), (false = false), ((decide ((1 * count_1) ≤ (128 : Int))) = true), (false = false), ((decide ((1 * count_1) ≤ (64 : Int))) = true), (true = true), ((1 * count_1) = (((Int.toNat (1 * count_1)) : Nat) : Int)), (0 ≤ (Int.toNat (1 * count_1)) ∧ (Int.toNat (1 * count_1)) ≤ 64)]) (by kernel_rfl) (by kernel_rfl) ⟨(beq_f c1), (beq_f c2), (decide_eq_false c3), h4, rfl, (congrArg _ (Option.some.inj h6)), (by decide), h7, h8, (by decide), h9, (congrArg _ (Option.some.inj h11)), (congrArg _ (Option.some.inj h13)), (by decide), h14, h15, (congrArg _ (Option.some.inj h17)), h18, h19, (congrArg _ (Option.some.inj h21)), (by decide), h22, h23, (decide_eq_false c24), (decide_eq_false c25), h26, rfl, rfl, rfl, rfl, rfl, (decide_eq_true c27), rfl, (decide_eq_true c27), rfl, (decide_eq_true c28), rfl, (Int.toNat_of_nonneg h29).symm, ok1 ⟨Nat.zero_le _, h30⟩⟩
theorem strings_Repeat_8 (count_1 : Int) (c1 : ¬ (count_1 = (0 : Int))) (c2 : ¬ (count_1 = (1 : Int))) (c3 : ¬ (count_1 < (0 : Int))) (h4 : InR .u64 (count_1)) (y5 : Int) (h6 : some (IntKind.wrap .u64 ((BitVec.ofInt (IntKind.bits .u64) count_1 &&& BitVec.ofInt (IntKind.bits .u64) 4294967295).toNat : Int)) = some y5) (h7 : InR .u64 (1 * y5)) (h8 : InR .u64 (0 * y5)) (h9 : InR .u64 ((0 * y5) + (Int.fdiv (1 * y5) (2 ^ (min (Int.toNat 32) (IntKind.bits .u64)))))) (y10 : Int) (h11 : some ((0 * y5) + (Int.fdiv (1 * y5) (2 ^ (min (Int.toNat 32) (IntKind.bits .u64))))) = some y10) (y12 : Int) (h13 : some (IntKind.wrap .u64 ((BitVec.ofInt (IntKind.bits .u64) y10 &&& BitVec.ofInt (IntKind.bits .u64) 4294967295).toNat : Int)) = some y12) (h14 : InR .u64 (1 * (Int.fdiv count_1 (2 ^ (min (Int.toNat 32) (IntKind.bits .u64)))))) (h15 : InR .u64 (y12 + (1 * (Int.fdiv count_1 (2 ^ (min (Int.toNat 32) (IntKind.bits .u64))))))) (y16 : Int) (h17 : some (y12 + (1 * (Int.fdiv count_1 (2 ^ (min (Int.toNat 32) (IntKind.bits .u64)))))) = some y16) (h18 : InR .u64 (0 * (Int.fdiv count_1 (2 ^ (min (Int.toNat 32) (IntKind.bits .u64)))))) (h19 : InR .u64 ((0 * (Int.fdiv count_1 (2 ^ (min (Int.toNat 32) (IntKind.bits .u64))))) + (Int.fdiv y10 (2 ^ (min (Int.toNat 32) (IntKind.bits .u64)))))) (y20 : Int) (h21 : some ((0 * (Int.fdiv count_1 (2 ^ (min (Int.toNat 32) (IntKind.bits .u64))))) + (Int.fdiv y10 (2 ^ (min (Int.toNat 32) (IntKind.bits .u64))))) = some y20) (h22 : InR .u64 (y20 + (Int.fdiv y16 (2 ^ (min (Int.toNat 32) (IntKind.bits .u64)))))) (h23 : InR .u64 (1 * count_1)) (c24 : ¬ ((y20 + (Int.fdiv y16 (2 ^ (min (Int.toNat 32) (IntKind.bits .u64))))) > (0 : Int))) (c25 : ¬ ((1 * count_1) > (9223372036854775807 : Int))) (h26 : InR .i64 (1 * count_1)) (c27 : ¬ ((1 * count_1) ≤ (128 : Int))) (c32 : (1 * count_1) ≤ (64 : Int)) (h33 : (0 : Int) ≤ (1 * count_1)) (h34 : (Int.toNat (1 * count_1)) ≤ 64) : Ret Tryd.prog GT 26 [.str [48], .int .i64 count_1] (.str (List.take (Int.toNat (1 * count_1)) strc_0)) [] :=
  Ret.of_view 400 (cs 2 ((.op none .a) :: (.op none .c) :: (.br false) :: (.op none .a) :: (.op none .c) :: (.br false) :: (.op none .c) :: (.op none .a) :: (.br false) :: (cs 4 ((.op none .w) :: (cs 3 ((.br false) :: (cs 12 ((.op none .a) :: (.tr (.eqt (.t 19) (.int .u64 y5))) :: (cs 2 ((.op none .a) :: (cs 3 ((.op none .w) :: (cs 3 ((.op none .w) :: (.op none .c) :: (.op none .a) :: (.op none .w) :: (.tr (.eqt (.t 30) (.int .u64 y10))) :: (cs 2 ((.op none .a) :: (.tr (.eqt (.t 32) (.int .u64 y12))) :: (cs 2 ((.op none .a) :: (cs 4 ((.op none .w) :: (.op none .w) :: (.tr (.eqt (.t 39) (.int .u64 y16))) :: (cs 3 ((.op none .w) :: (.op none .c) :: (.op none .w) :: (.tr (.eqt (.t 44) (.int .u64 y20))) :: (.op none .c) :: (.op none .a) :: (.op none .w) :: (cs 3 ((.op none .w) :: (cs 16 ((.op none .a) :: (.op none .c) :: (.op (some false) .c) :: (.op none .a) :: (.op none .c) :: (.br false) :: (.op none .c) :: (.op none .w) :: (cs 4 ((.br false) :: (cs 4 ((.br false) :: (cs 2 ((.br false) :: (cs 2 ((.br true) :: (.br true) :: (.op none .c) :: (.op none .a) :: (.op none .c) :: (.op (some false) .c) :: (cs 3 ((.br false) :: (.op none .c) :: (.op none .a) :: (.op none .c) :: (.op (some false) .c) :: (cs 3 ((.br false) :: (.op none .c) :: (.op none .a) :: (.op none .c) :: (.op (some true) .c) :: (cs 23 [.br true, .op none .c, .op none (.s 0 (Int.toNat (1 * count_1))), .op none .c]))))))))))))))))))))))))))))))))))))))) [] (ps := [((count_1 == (0 : Int)) = false), ((count_1 == (1 : Int)) = false), ((decide (count_1 < (0 : Int))) = false), (IntKind.min .u64 ≤ count_1 ∧ count_1 ≤ IntKind.max .u64), (false = false), ((.int .u64 (IntKind.wrap .u64 ((BitVec.ofInt (IntKind.bits .u64) count_1 &&& BitVec.ofInt (IntKind.bits .u64) 4294967295).toNat : Int)) : AV) = .int .u64 y5), ((0 : Int) ≤ 32), (IntKind.min .u64 ≤ (1 * y5) ∧ (1 * y5) ≤ IntKind.max .u64), (IntKind.min .u64 ≤ (0 * y5) ∧ (0 * y5) ≤ IntKind.max .u64), ((0 : Int) ≤ 32), (IntKind.min .u64 ≤ ((0 * y5) + (Int.fdiv (1 * y5) (2 ^ (min (Int.toNat 32) (IntKind.bits .u64))))) ∧ ((0 * y5) + (Int.fdiv (1 * y5) (2 ^ (min (Int.toNat 32) (IntKind.bits .u64))))) ≤ IntKind.max .u64), ((.int .u64 ((0 * y5) + (Int.fdiv (1 * y5) (2 ^ (min (Int.toNat 32) (IntKind.bits .u64))))) : AV) = .int .u64 y10), ((.int .u64 (IntKind.wrap .u64 ((BitVec.ofInt (IntKind.bits .u64) y10 &&& BitVec.ofInt (IntKind.bits .u64) 4294967295).toNat : Int)) : AV) = .int .u64 y12), ((0 : Int) ≤ 32), (IntKind.min .u64 ≤ (1 * (Int.fdiv count_1 (2 ^ (min (Int.toNat 32) (IntKind.bits .u64))))) ∧ (1 * (Int.fdiv count_1 (2 ^ (min (Int.toNat 32) (IntKind.bits .u64))))) ≤ IntKind.max .u64), (IntKind.min .u64 ≤ (y12 + (1 * (Int.fdiv count_1 (2 ^ (min (Int.toNat 32) (IntKind.bits .u64)))))) ∧ (y12 + (1 * (Int.fdiv count_1 (2 ^ (min (Int.toNat 32) (IntKind.bits .u64)))))) ≤ IntKind.max .u64), ((.int .u64 (y12 + (1 * (Int.fdiv count_1 (2 ^ (min (Int.toNat 32) (IntKind.bits .u64)))))) : AV) = .int .u64 y16), (IntKind.min .u64 ≤ (0 * (Int.fdiv count_1 (2 ^ (min (Int.toNat 32) (IntKind.bits .u64))))) ∧ (0 * (Int.fdiv count_1 (2 ^ (min (Int.toNat 32) (IntKind.bits .u64))))) ≤ IntKind.max .u64), (IntKind.min .u64 ≤ ((0 * (Int.fdiv count_1 (2 ^ (min (Int.toNat 32) (IntKind.bits .u64))))) + (Int.fdiv y10 (2 ^ (min (Int.toNat 32) (IntKind.bits .u64))))) ∧ ((0 * (Int.fdiv count_1 (2 ^ (min (Int.toNat 32) (IntKind.bits .u64))))) + (Int.fdiv y10 (2 ^ (min (Int.toNat 32) (IntKind.bits .u64))))) ≤ IntKind.max .u64), ((.int .u64 ((0 * (Int.fdiv count_1 (2 ^ (min (Int.toNat 32) (IntKind.bits .u64))))) + (Int.fdiv y10 (2 ^ (min (Int.toNat 32) (IntKind.bits .u64))))) : AV) = .int .u64 y20), ((0 : Int) ≤ 32), (IntKind.min .u64 ≤ (y20 + (Int.fdiv y16 (2 ^ (min (Int.toNat 32) (IntKind.bits .u64))))) ∧ (y20 + (Int.fdiv y16 (2 ^ (min (Int.toNat 32) (IntKind.bits .u64))))) ≤ IntKind.max .u64), (IntKind.min .u64 ≤ (1 * count_1) ∧ (1 * count_1) ≤ IntKind.max .u64), ((decide ((y20 + (Int.fdiv y16 (2 ^ (min (Int.toNat 32) (IntKind.bits .u64))))) > (0 : Int))) = false), ((decide ((1 * count_1) > (9223372036854775807 : Int))) = false), (IntKind.min .i64 ≤ (1 * count_1) ∧ (1 * count_1) ≤ IntKind.max .i64), (false = false), (false = false), (false = false), (true = true), (true = true), ((decide ((1 * count_1) ≤ (128 : Int))) = false), (false = false), ((decide ((1 * count_1) ≤ (128 : Int))) = false), (false = false), ((decide ((1 * count_1) ≤ (64 : Int))) = true), (true = true), ((1 * count_1) = (((Int.toNat (1 * count_1)) : Nat) : Int)), (0 ≤ (Int.toNat (1 * count_1)) ∧ (Int.toNat (1 * count_1)) ≤ 64)]) (by kernel_rfl) (by kernel_rfl) ⟨(beq_f c1), (beq_f c2), (decide_eq_false c3), h4, rfl, (congrArg _ (Option.some.inj h6)), (by decide), h7, h8, (by decide), h9, (congrArg _ (Option.some.inj h11)), (congrArg _ (Option.some.inj h13)), (by decide), h14, h15, (congrArg _ (Option.some.inj h17)), h18, h19, (congrArg _ (Option.some.inj h21)), (by decide), h22, h23, (decide_eq_false c24), (decide_eq_false c25), h26, rfl, rfl, rfl, rfl, rfl, (decide_eq_false c27), rfl, (decide_eq_false c27), rfl, (decide_eq_true c32), rfl, (Int.toNat_of_nonneg h33).symm, ok1 ⟨Nat.zero_le _, h34⟩⟩
theorem strings_Repeat_ret (count_1 : Int) (r : (List UInt8)) (h : strings_Repeat count_1 = some r) : Ret Tryd.prog GT 26 [.str [48], .int .i64 count_1] (.str r) [] := by
  unfold strings_Repeat at h
  rcases ite_some h with ⟨c1, h⟩ | ⟨c1, h⟩
  · simp only [Option.some.injEq] at h
    subst h
    exact strings_Repeat_0 count_1 c1
  · rcases ite_some h with ⟨c2, h⟩ | ⟨c2, h⟩
    · simp only [Option.some.injEq] at h
      subst h
      exact strings_Repeat_1 count_1 c1 c2
    · rcases ite_some h with ⟨c3, h⟩ | ⟨c3, h⟩
      · cases h
      · obtain ⟨h4, h⟩ := guard_some h
        obtain ⟨y5, h6, h⟩ := bind_some h
        obtain ⟨h7, h⟩ := guard_some h
        obtain ⟨h8, h⟩ := guard_some h
        obtain ⟨h9, h⟩ := guard_some h
        obtain ⟨y10, h11, h⟩ := bind_some h
        obtain ⟨y12, h13, h⟩ := bind_some h
        obtain ⟨h14, h⟩ := guard_some h
        obtain ⟨h15, h⟩ := guard_some h
        obtain ⟨y16, h17, h⟩ := bind_some h
        obtain ⟨h18, h⟩ := guard_some h
        obtain ⟨h19, h⟩ := guard_some h
        obtain ⟨y20, h21, h⟩ := bind_some h
        obtain ⟨h22, h⟩ := guard_some h
        obtain ⟨h23, h⟩ := guard_some h
        rcases ite_some h with ⟨c24, h⟩ | ⟨c24, h⟩
        · cases h
        · rcases ite_some h with ⟨c25, h⟩ | ⟨c25, h⟩
          · cases h
          · obtain ⟨h26, h⟩ := guard_some h
            rcases ite_some h with ⟨c27, h⟩ | ⟨c27, h⟩
            · rcases ite_some h with ⟨c28, h⟩ | ⟨c28, h⟩
              · obtain ⟨h29, h⟩ := guard_some h
                obtain ⟨h30, h⟩ := guard_some h
                simp only [Option.some.injEq] at h
                subst h
                exact strings_Repeat_5 count_1 c1 c2 c3 h4 y5 h6 h7 h8 h9 y10 h11 y12 h13 h14 h15 y16 h17 h18 h19 y20 h21 h22 h23 c24 c25 h26 c27 c28 h29 h30
              · rcases ite_some h with ⟨c31, h⟩ | ⟨c31, h⟩
                · cases h
                · cases h
            · rcases ite_some h with ⟨c32, h⟩ | ⟨c32, h⟩
              · obtain ⟨h33, h⟩ := guard_some h
                obtain ⟨h34, h⟩ := guard_some h
                simp only [Option.some.injEq] at h
                subst h
                exact strings_Repeat_8 count_1 c1 c2 c3 h4 y5 h6 h7 h8 h9 y10 h11 y12 h13 h14 h15 y16 h17 h18 h19 y20 h21 h22 h23 c24 c25 h26 c27 c32 h33 h34
              · rcases ite_some h with ⟨c35, h⟩ | ⟨c35, h⟩
                · cases h
                · cases h
noncomputable def tag_Make (agency_0 : (List UInt8)) (serial_1 : Int) : Option ((List UInt8) × Int) :=
  (tag_digits agency_0 3).bind fun r1 =>
  if r1 = true then
    if serial_1 < (0 : Int) then
      some (([] : List UInt8), 2)
    else
      if serial_1 > (99999999 : Int) then
        some (([] : List UInt8), 2)
      else
        (itoaF serial_1).bind fun r6 =>
        if InR .i64 (8 - (↑r6.length : Int)) then
          (strings_Repeat (8 - (↑r6.length : Int))).bind fun r9 =>
          if agency_0.length + r9.length ≤ 9223372036854775807 then
            if (agency_0 ++ r9).length + r6.length ≤ 9223372036854775807 then
              (tag_luhn ((agency_0 ++ r9) ++ r6)).bind fun r13 =>
              if InR .i64 (10 - (Int.tmod r13 10)) then
                (itoaF (Int.tmod (10 - (Int.tmod r13 10)) 10)).bind fun r16 =>
                if ((agency_0 ++ r9) ++ r6).length + r16.length ≤ 9223372036854775807 then
                  some (((agency_0 ++ r9) ++ r6) ++ r16, 0)
                else none
              else none
            else none
          else none
        else none
  else
    some (([] : List UInt8), 30)
theorem tag_Make_0 (agency_0 : (List UInt8)) (serial_1 : Int) (r1 : Bool) (h2 : tag_digits agency_0 3 = some r1) (c3 : r1 = true) (c4 : serial_1 < (0 : Int)) : Ret Tryd.prog GT 11 [.str agency_0, .int .i64 serial_1] (.tup [.str [], .int .i64 2]) [] :=
  Ret.of_view 400 (cs 3 ((.ret none [.str agency_0, .int .i64 3] (.bool r1) []) :: (cs 2 ((.br false) :: (.op none .c) :: (.op none .a) :: (.op none .c) :: (.op (some true) .c) :: (cs 3 ((.br true) :: (cs 2 []))))))) [] (ps := [((.str agency_0 : AV) = .str agency_0), ((.int .i64 3 : AV) = .int .i64 3), (Ret Tryd.prog GT 24 [.str agency_0, .int .i64 3] (.bool r1) []), ((!r1) = false), ((decide (serial_1 < (0 : Int))) = true), (true = true)]) (by kernel_rfl) (by kernel_rfl) ⟨rfl, rfl, (tag_digits_ret agency_0 3 r1 h2), (not_f c3), (decide_eq_true c4), ok1 rfl⟩
theorem tag_Make_1 (agency_0 : (List UInt8)) (serial_1 : Int) (r1 : Bool) (h2 : tag_digits agency_0 3 = some r1) (c3 : r1 = true) (c4 : ¬ (serial_1 < (0 : Int))) (c5 : serial_1 > (99999999 : Int)) : Ret Tryd.prog GT 11 [.str agency_0, .int .i64 serial_1] (.tup [.str [], .int .i64 2]) [] :=
  Ret.of_view 400 (cs 3 ((.ret none [.str agency_0, .int .i64 3] (.bool r1) []) :: (cs 2 ((.br false) :: (.op none .c) :: (.op none .a) :: (.op none .c) :: (.op (some false) .c) :: (.op none .a) :: (cs 2 ((.br true) :: (cs 2 []))))))) [] (ps := [((.str agency_0 : AV) = .str agency_0), ((.int .i64 3 : AV) = .int .i64 3), (Ret Tryd.prog GT 24 [.str agency_0, .int .i64 3] (.bool r1) []), ((!r1) = false), ((decide (serial_1 < (0 : Int))) = false), ((decide (serial_1 > (99999999 : Int))) = true)]) (by kernel_rfl) (by kernel_rfl) ⟨rfl, rfl, (tag_digits_ret agency_0 3 r1 h2), (not_f c3), (decide_eq_false c4), ok1 (decide_eq_true c5)⟩
theorem tag_Make_2 (agency_0 : (List UInt8)) (serial_1 : Int) (r1 : Bool) (h2 : tag_digits agency_0 3 = some r1) (c3 : r1 = true) (c4 : ¬ (serial_1 < (0 : Int))) (c5 : ¬ (serial_1 > (99999999 : Int))) (r6 : (List UInt8)) (h7 : itoaF serial_1 = some r6) (h8 : InR .i64 (8 - (↑r6.length : Int))) (r9 : (List UInt8)) (h10 : strings_Repeat (8 - (↑r6.length : Int)) = some r9) (h11 : agency_0.length + r9.length ≤ 9223372036854775807) (h12 : (agency_0 ++ r9).length + r6.length ≤ 9223372036854775807) (r13 : Int) (h14 : tag_luhn ((agency_0 ++ r9) ++ r6) = some r13) (h15 : InR .i64 (10 - (Int.tmod r13 10))) (r16 : (List UInt8)) (h17 : itoaF (Int.tmod (10 - (Int.tmod r13 10)) 10) = some r16) (h18 : ((agency_0 ++ r9) ++ r6).length + r16.length ≤ 9223372036854775807) : Ret Tryd.prog GT 11 [.str agency_0, .int .i64 serial_1] (.tup [.str (((agency_0 ++ r9) ++ r6) ++ r16), .int .i64 0]) [] :=
  Ret.of_view 400 (cs 3 ((.ret none [.str agency_0, .int .i64 3] (.bool r1) []) :: (cs 2 ((.br false) :: (.op none .c) :: (.op none .a) :: (.op none .c) :: (.op (some false) .c) :: (.op none .a) :: (cs 2 ((.br false) :: (.op none .c) :: (.ret none [.int .i64 serial_1] (.str r6) []) :: (cs 4 ((.op none .w) :: (.ret none [.str [48], .int .i64 (8 - (↑r6.length : Int))] (.str r9) []) :: (.op none .a) :: (.op none .c) :: (.op none .a) :: (cs 3 ((.ret none [.str ((agency_0 ++ r9) ++ r6)] (.int .i64 r13) []) :: (.op none .a) :: (.op none .w) :: (.op none .a) :: (.ret none [.int .i64 (Int.tmod (10 - (Int.tmod r13 10)) 10)] (.str r16) []) :: (.op none .a) :: (cs 2 []))))))))))) [] (ps := [((.str agency_0 : AV) = .str agency_0), ((.int .i64 3 : AV) = .int .i64 3), (Ret Tryd.prog GT 24 [.str agency_0, .int .i64 3] (.bool r1) []), ((!r1) = false), ((decide (serial_1 < (0 : Int))) = false), ((decide (serial_1 > (99999999 : Int))) = false), ((.int .i64 serial_1 : AV) = .int .i64 serial_1), (Ret Tryd.prog GT 25 [.int .i64 serial_1] (.str r6) []), (IntKind.min .i64 ≤ (8 - (↑r6.length : Int)) ∧ (8 - (↑r6.length : Int)) ≤ IntKind.max .i64), ((.str [48] : AV) = .str [48]), ((.int .i64 (8 - (↑r6.length : Int)) : AV) = .int .i64 (8 - (↑r6.length : Int))), (Ret Tryd.prog GT 26 [.str [48], .int .i64 (8 - (↑r6.length : Int))] (.str r9) []), (agency_0.length + r9.length ≤ 9223372036854775807), ((agency_0 ++ r9).length + r6.length ≤ 9223372036854775807), ((.str ((agency_0 ++ r9) ++ r6) : AV) = .str ((agency_0 ++ r9) ++ r6)), (Ret Tryd.prog GT 27 [.str ((agency_0 ++ r9) ++ r6)] (.int .i64 r13) []), (10 ≠ (0 : Int)), (IntKind.min .i64 ≤ (10 - (Int.tmod r13 10)) ∧ (10 - (Int.tmod r13 10)) ≤ IntKind.max .i64), (10 ≠ (0 : Int)), ((.int .i64 (Int.tmod (10 - (Int.tmod r13 10)) 10) : AV) = .int .i64 (Int.tmod (10 - (Int.tmod r13 10)) 10)), (Ret Tryd.prog GT 25 [.int .i64 (Int.tmod (10 - (Int.tmod r13 10)) 10)] (.str r16) []), (((agency_0 ++ r9) ++ r6).length + r16.length ≤ 9223372036854775807)]) (by kernel_rfl) (by kernel_rfl) ⟨rfl, rfl, (tag_digits_ret agency_0 3 r1 h2), (not_f c3), (decide_eq_false c4), (decide_eq_false c5), rfl, (itoa_ret serial_1 r6 h7), h8, rfl, rfl, (strings_Repeat_ret (8 - (↑r6.length : Int)) r9 h10), h11, h12, rfl, (tag_luhn_ret ((agency_0 ++ r9) ++ r6) r13 h14), (by decide), h15, (by decide), rfl, (itoa_ret (Int.tmod (10 - (Int.tmod r13 10)) 10) r16 h17), ok1 h18⟩
theorem tag_Make_3 (agency_0 : (List UInt8)) (serial_1 : Int) (r1 : Bool) (h2 : tag_digits agency_0 3 = some r1) (c3 : ¬ (r1 = true)) : Ret Tryd.prog GT 11 [.str agency_0, .int .i64 serial_1] (.tup [.str [], .int .i64 30]) [] :=
  Ret.of_view 400 (cs 3 ((.ret none [.str agency_0, .int .i64 3] (.bool r1) []) :: (cs 2 ((.br true) :: (cs 2 []))))) [] (ps := [((.str agency_0 : AV) = .str agency_0), ((.int .i64 3 : AV) = .int .i64 3), (Ret Tryd.prog GT 24 [.str agency_0, .int .i64 3] (.bool r1) []), ((!r1) = true)]) (by kernel_rfl) (by kernel_rfl) ⟨rfl, rfl, (tag_digits_ret agency_0 3 r1 h2), ok1 (not_t (eq_false_of_ne_true c3))⟩
theorem tag_Make_ret (agency_0 : (List UInt8)) (serial_1 : Int) (r : ((List UInt8) × Int)) (h : tag_Make agency_0 serial_1 = some r) : Ret Tryd.prog GT 11 [.str agency_0, .int .i64 serial_1] (.tup [.str r.1, .int .i64 r.2]) [] := by
  unfold tag_Make at h
  obtain ⟨r1, h2, h⟩ := bind_some h
  rcases ite_some h with ⟨c3, h⟩ | ⟨c3, h⟩
  · rcases ite_some h with ⟨c4, h⟩ | ⟨c4, h⟩
    · simp only [Option.some.injEq] at h
      subst h
      exact tag_Make_0 agency_0 serial_1 r1 h2 c3 c4
    · rcases ite_some h with ⟨c5, h⟩ | ⟨c5, h⟩
      · simp only [Option.some.injEq] at h
        subst h
        exact tag_Make_1 agency_0 serial_1 r1 h2 c3 c4 c5
      · obtain ⟨r6, h7, h⟩ := bind_some h
        obtain ⟨h8, h⟩ := guard_some h
        obtain ⟨r9, h10, h⟩ := bind_some h
        obtain ⟨h11, h⟩ := guard_some h
        obtain ⟨h12, h⟩ := guard_some h
        obtain ⟨r13, h14, h⟩ := bind_some h
        obtain ⟨h15, h⟩ := guard_some h
        obtain ⟨r16, h17, h⟩ := bind_some h
        obtain ⟨h18, h⟩ := guard_some h
        simp only [Option.some.injEq] at h
        subst h
        exact tag_Make_2 agency_0 serial_1 r1 h2 c3 c4 c5 r6 h7 h8 r9 h10 h11 h12 r13 h14 h15 r16 h17 h18
  · simp only [Option.some.injEq] at h
    subst h
    exact tag_Make_3 agency_0 serial_1 r1 h2 c3
end Go.Proofs.YtalobodhbbkgdaaDoor.Av
