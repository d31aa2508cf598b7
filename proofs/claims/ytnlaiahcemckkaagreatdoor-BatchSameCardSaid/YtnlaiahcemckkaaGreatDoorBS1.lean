import Derived.Test.YtnlaiahcemckkaaGreatDoorAvZ
import Derived.Test.YtnlaiahcemckkaaGreatDoorProg
import Derived.Tactics
import Derived.Test.YtnlaiahcemckkaaGreatDoorCO2
set_option linter.unusedVariables false
set_option linter.unusedSimpArgs false
set_option maxHeartbeats 4000000
namespace Go.Proofs.YtnlaiahcemckkaaGreatDoor.Av
open Go Go.Proofs
noncomputable def batch_Same_C1_L9_step (x_0 : Tapi_Passage) (y_1 : Tapi_Passage) : Nat → Option (Nat ⊕ (Unit ⊕ Unit)) := fun k13 =>
  if (↑k13 : Int) < (↑x_0.Sources.length : Int) then
    (x_0.Sources[k13]?).bind fun x18 =>
    (y_1.Sources[k13]?).bind fun x20 =>
    if ((x18.Device == x20.Device) && ((x18.Seq == x20.Seq) && true)) = true then
      if InR .i64 ((↑k13 : Int) + 1) then
        some (Sum.inl (k13 + 1))
      else none
    else
      some (Sum.inr (Sum.inl ()))
  else
    some (Sum.inr (Sum.inr (())))
def batch_Same_C1_L9_H (x_0 : Tapi_Passage) (y_1 : Tapi_Passage) : Nat → St := fun (s : Nat) => S 26 [(0, .lst (fl Tapi_Source.enc x_0.Sources) x_0.Sources.length), (1, .lst (fl Tapi_Source.enc y_1.Sources) y_1.Sources.length), (12, .int .i64 (↑x_0.Sources.length : Int)), (13, .int .i64 (↑s : Int))] []
def batch_Same_C1_L9_h1 (k13 : Nat) (x18 : Tapi_Source) (x20 : Tapi_Source) : List CH := ((.br true) :: (cs 4 ((.op none (.i k13)) :: (.op none (.v [.str x18.Device, .int .i64 x18.Seq])) :: (cs 2 [.op none (.i k13), .op none (.v [.str x20.Device, .int .i64 x20.Seq]), .op none .c]))))
def batch_Same_C1_L9_p2 (x_0 : Tapi_Passage) (y_1 : Tapi_Passage) (k13 : Nat) (x18 : Tapi_Source) (x20 : Tapi_Source) : List Prop := [((decide ((↑k13 : Int) < (↑x_0.Sources.length : Int))) = true), ((↑k13 : Int) = ((k13 : Nat) : Int) ∧ k13 < x_0.Sources.length), ((fl Tapi_Source.enc x_0.Sources) ≠ []), (sub (fl Tapi_Source.enc x_0.Sources) (k13 * 2) 2 = [.str x18.Device, .int .i64 x18.Seq]), ((↑k13 : Int) = ((k13 : Nat) : Int) ∧ k13 < y_1.Sources.length), ((fl Tapi_Source.enc y_1.Sources) ≠ []), (sub (fl Tapi_Source.enc y_1.Sources) (k13 * 2) 2 = [.str x20.Device, .int .i64 x20.Seq])]
theorem batch_Same_C1_L9_p2q (x_0 : Tapi_Passage) (y_1 : Tapi_Passage) (k13 : Nat) (c17 : (↑k13 : Int) < (↑x_0.Sources.length : Int)) (x18 : Tapi_Source) (h19 : x_0.Sources[k13]? = some x18) (x20 : Tapi_Source) (h21 : y_1.Sources[k13]? = some x20) : allOk (batch_Same_C1_L9_p2 x_0 y_1 k13 x18 x20) := ⟨(decide_eq_true c17), ⟨rfl, get_lt h19⟩, (fl_ne (f := Tapi_Source.enc) (z := 1) (fun _ => rfl) h19), (fl_sub0 (f := Tapi_Source.enc) (z := 2) (j := k13) (fun _ => rfl) h19 rfl), ⟨rfl, get_lt h21⟩, (fl_ne (f := Tapi_Source.enc) (z := 1) (fun _ => rfl) h21), ok1 (fl_sub0 (f := Tapi_Source.enc) (z := 2) (j := k13) (fun _ => rfl) h21 rfl)⟩
theorem batch_Same_C1_L9_0 (x_0 : Tapi_Passage) (y_1 : Tapi_Passage) (k13 : Nat) (c17 : (↑k13 : Int) < (↑x_0.Sources.length : Int)) (x18 : Tapi_Source) (h19 : x_0.Sources[k13]? = some x18) (x20 : Tapi_Source) (h21 : y_1.Sources[k13]? = some x20) (c22 : ((x18.Device == x20.Device) && ((x18.Seq == x20.Seq) && true)) = true) (h23 : InR .i64 ((↑k13 : Int) + 1)) : Does Tryz.prog GT 0 (bodyAt Tryz.prog 25 [1, 1, 0, 1, 0, 0]) (batch_Same_C1_L9_H x_0 y_1 k13) .normal (S 26 [(0, .lst (fl Tapi_Source.enc x_0.Sources) x_0.Sources.length), (1, .lst (fl Tapi_Source.enc y_1.Sources) y_1.Sources.length), (12, .int .i64 (↑x_0.Sources.length : Int)), (13, .int .i64 ((↑k13 : Int) + 1))] []) :=
  Does.of_viewM 0 400 ([.op none .a] ++ ((batch_Same_C1_L9_h1 k13 x18 x20) ++ [.br false, .op none .w, .op none .c])) [] (ps := ((batch_Same_C1_L9_p2 x_0 y_1 k13 x18 x20) ++ [((!((x18.Device == x20.Device) && ((x18.Seq == x20.Seq) && true))) = false), (IntKind.min .i64 ≤ ((↑k13 : Int) + 1) ∧ ((↑k13 : Int) + 1) ≤ IntKind.max .i64)])) (by kernel_rfl) (by kernel_rfl) (allOk_append.2 ⟨(batch_Same_C1_L9_p2q x_0 y_1 k13 c17 x18 h19 x20 h21), ⟨(not_f c22), ok1 h23⟩⟩)
theorem batch_Same_C1_L9_1 (x_0 : Tapi_Passage) (y_1 : Tapi_Passage) (k13 : Nat) (c17 : (↑k13 : Int) < (↑x_0.Sources.length : Int)) (x18 : Tapi_Source) (h19 : x_0.Sources[k13]? = some x18) (x20 : Tapi_Source) (h21 : y_1.Sources[k13]? = some x20) (c22 : ¬ (((x18.Device == x20.Device) && ((x18.Seq == x20.Seq) && true)) = true)) : Does Tryz.prog GT 0 (bodyAt Tryz.prog 25 [1, 1, 0, 1, 0, 0]) (batch_Same_C1_L9_H x_0 y_1 k13) .ret (S 26 [(4, .bool false)] []) :=
  Does.of_viewM 0 400 ([.op none .a] ++ ((batch_Same_C1_L9_h1 k13 x18 x20) ++ [.br true, .op none .c])) [] (ps := ((batch_Same_C1_L9_p2 x_0 y_1 k13 x18 x20) ++ [((!((x18.Device == x20.Device) && ((x18.Seq == x20.Seq) && true))) = true)])) (by kernel_rfl) (by kernel_rfl) (allOk_append.2 ⟨(batch_Same_C1_L9_p2q x_0 y_1 k13 c17 x18 h19 x20 h21), (ok1 (not_t (eq_false_of_ne_true c22)))⟩)
theorem batch_Same_C1_L9_2 (x_0 : Tapi_Passage) (y_1 : Tapi_Passage) (k13 : Nat) (c17 : ¬ ((↑k13 : Int) < (↑x_0.Sources.length : Int))) : Does Tryz.prog GT 0 (bodyAt Tryz.prog 25 [1, 1, 0, 1, 0, 0]) (batch_Same_C1_L9_H x_0 y_1 k13) (.exit 0) (S 26 [] []) :=
  Does.of_viewM 0 400 ([.op none .a] ++ [.br false]) [] (ps := [((decide ((↑k13 : Int) < (↑x_0.Sources.length : Int))) = false)]) (by kernel_rfl) (by kernel_rfl) (ok1 (decide_eq_false c17))
def batch_Same_C1_L9_X (x_0 : Tapi_Passage) (y_1 : Tapi_Passage) : (Unit ⊕ Unit) → AEx := fun q => match q with | Sum.inl o => .ret | Sum.inr (o) => (.exit 0)
def batch_Same_C1_L9_E (x_0 : Tapi_Passage) (y_1 : Tapi_Passage) : (Unit ⊕ Unit) → St := fun q => match q with | Sum.inl o => S 26 [(4, .bool false)] [] | Sum.inr (o) => S 26 [] []
theorem batch_Same_C1_L9_does (x_0 : Tapi_Passage) (y_1 : Tapi_Passage) {s : Nat} {r : Unit ⊕ Unit} (h : lp (batch_Same_C1_L9_step x_0 y_1) s = some r) : Does Tryz.prog GT 0 (.loop (bodyAt Tryz.prog 25 [1, 1, 0, 1, 0, 0])) (batch_Same_C1_L9_H x_0 y_1 s) (batch_Same_C1_L9_X x_0 y_1 r) (batch_Same_C1_L9_E x_0 y_1 r) := by
  refine Does.lp (H := batch_Same_C1_L9_H x_0 y_1) (X := batch_Same_C1_L9_X x_0 y_1) (E := batch_Same_C1_L9_E x_0 y_1) (fun s s2 h => ?_) (fun s r h => ?_) h
  · revert h; revert s; intro k13 h
    unfold batch_Same_C1_L9_step at h
    try dsimp only at h
    rcases ite_some h with ⟨c17, h⟩ | ⟨c17, h⟩
    · obtain ⟨x18, h19, h⟩ := bind_some h
      obtain ⟨x20, h21, h⟩ := bind_some h
      rcases ite_some h with ⟨c22, h⟩ | ⟨c22, h⟩
      · obtain ⟨h23, h⟩ := guard_some h
        simp only [Option.some.injEq, Sum.inl.injEq] at h
        subst h
        have hq := batch_Same_C1_L9_0 x_0 y_1 k13 c17 x18 h19 x20 h21 c22 h23
        first | exact hq | exact Eq.mp (by simp only [batch_Same_C1_L9_H, List.length_set] <;> rfl) hq
      · simp at h
    · simp at h
  · revert h; revert s; intro k13 h
    unfold batch_Same_C1_L9_step at h
    try dsimp only at h
    rcases ite_some h with ⟨c17, h⟩ | ⟨c17, h⟩
    · obtain ⟨x18, h19, h⟩ := bind_some h
      obtain ⟨x20, h21, h⟩ := bind_some h
      rcases ite_some h with ⟨c22, h⟩ | ⟨c22, h⟩
      · obtain ⟨h23, h⟩ := guard_some h
        simp at h
      · simp only [Option.some.injEq, Sum.inr.injEq] at h
        subst h
        exact ⟨batch_Same_C1_L9_1 x_0 y_1 k13 c17 x18 h19 x20 h21 c22, by intro q; cases q⟩
    · simp only [Option.some.injEq, Sum.inr.injEq] at h
      subst h
      exact ⟨batch_Same_C1_L9_2 x_0 y_1 k13 c17, by intro q; cases q⟩
noncomputable def batch_Same_C1 (x_0 : Tapi_Passage) (y_1 : Tapi_Passage) : Option Bool :=
  if x_0.ID = y_1.ID then
    if x_0.Point = y_1.Point then
      if x_0.Time = y_1.Time then
        if x_0.Tag = y_1.Tag then
          if x_0.Plate = y_1.Plate then
            if x_0.Class = y_1.Class then
              if x_0.Score = y_1.Score then
                if (↑x_0.Sources.length : Int) = (↑y_1.Sources.length : Int) then
                  (lp (batch_Same_C1_L9_step x_0 y_1) (0 : Nat)).bind fun qq => match qq with
                  | Sum.inl o9 =>
                    some false
                  | Sum.inr (o9) =>
                    some true
                else
                  some false
              else
                some false
            else
              some false
          else
            some false
        else
          some false
      else
        some false
    else
      some false
  else
    some false
def batch_Same_C1_h1  : List CH := (cs 7 [.op none .a, .op none .c])
def batch_Same_C1_h2  : List CH := ((.op (some true) .c) :: (cs 3 ((.op none .a) :: (cs 2 []))))
def batch_Same_C1_h3  : List CH := ((.op (some true) .c) :: (cs 3 ((.op none .a) :: (cs 2 []))))
def batch_Same_C1_h4  : List CH := ((.op (some true) .c) :: (cs 3 ((.op none .a) :: (cs 2 []))))
def batch_Same_C1_h5  : List CH := ((.op (some true) .c) :: (cs 3 ((.op none .a) :: (cs 2 []))))
def batch_Same_C1_h6  : List CH := ((.op (some true) .c) :: (cs 3 ((.op none .a) :: (cs 2 []))))
def batch_Same_C1_h7  : List CH := ((.op (some true) .c) :: (cs 3 ((.op none .a) :: (cs 2 []))))
def batch_Same_C1_h8  : List CH := ((.op (some true) .c) :: (cs 9 [.op none .a]))
def batch_Same_C1_h9  : List CH := ((.br false) :: (cs 3 []))
def batch_Same_C1_p10 (x_0 : Tapi_Passage) (y_1 : Tapi_Passage) : List Prop := [((!((↑x_0.Sources.length : Int) == (↑y_1.Sources.length : Int))) = false), ((.lst (fl Tapi_Source.enc x_0.Sources) x_0.Sources.length : AV) = .lst (fl Tapi_Source.enc x_0.Sources) x_0.Sources.length), ((.lst (fl Tapi_Source.enc y_1.Sources) y_1.Sources.length : AV) = .lst (fl Tapi_Source.enc y_1.Sources) y_1.Sources.length), ((.int .i64 (↑x_0.Sources.length : Int) : AV) = .int .i64 (↑x_0.Sources.length : Int)), ((.int .i64 0 : AV) = .int .i64 (↑(0 : Nat) : Int))]
theorem batch_Same_C1_p10q (x_0 : Tapi_Passage) (y_1 : Tapi_Passage) (c8 : (↑x_0.Sources.length : Int) = (↑y_1.Sources.length : Int)) : allOk (batch_Same_C1_p10 x_0 y_1) := ⟨(not_f (beq_t c8)), rfl, rfl, rfl, ok1 rfl⟩
theorem batch_Same_C1_0 (x_0 : Tapi_Passage) (y_1 : Tapi_Passage) (c1 : x_0.ID = y_1.ID) (c2 : x_0.Point = y_1.Point) (c3 : x_0.Time = y_1.Time) (c4 : x_0.Tag = y_1.Tag) (c5 : x_0.Plate = y_1.Plate) (c6 : x_0.Class = y_1.Class) (c7 : x_0.Score = y_1.Score) (c8 : (↑x_0.Sources.length : Int) = (↑y_1.Sources.length : Int)) (o9 : Unit) (hl9 : lp (batch_Same_C1_L9_step x_0 y_1) (0 : Nat) = some (Sum.inl o9)) : Ret Tryz.prog GT 24 [.agg (Tapi_Passage.enc x_0), .agg (Tapi_Passage.enc y_1)] (.bool false) [] :=
  Ret.of_view 400 ((batch_Same_C1_h1) ++ ((batch_Same_C1_h2) ++ ((batch_Same_C1_h3) ++ ((batch_Same_C1_h4) ++ ((batch_Same_C1_h5) ++ ((batch_Same_C1_h6) ++ ((batch_Same_C1_h7) ++ ((batch_Same_C1_h8) ++ ((batch_Same_C1_h9) ++ ((.fcut 0 .ret [(4, .bool false)] [] [] [(0, .lst (fl Tapi_Source.enc x_0.Sources) x_0.Sources.length), (1, .lst (fl Tapi_Source.enc y_1.Sources) y_1.Sources.length), (12, .int .i64 (↑x_0.Sources.length : Int)), (13, .int .i64 (↑(0 : Nat) : Int))] []) :: (cs 2 []))))))))))) [] (ps := ([((x_0.ID == y_1.ID) = true)] ++ ([((x_0.Point == y_1.Point) = true)] ++ ([((x_0.Time == y_1.Time) = true)] ++ ([((x_0.Tag == y_1.Tag) = true)] ++ ([((x_0.Plate == y_1.Plate) = true)] ++ ([((x_0.Class == y_1.Class) = true)] ++ ([((x_0.Score == y_1.Score) = true)] ++ ((batch_Same_C1_p10 x_0 y_1) ++ [(Does Tryz.prog GT 0 (.loop (bodyAt Tryz.prog 25 [1, 1, 0, 1, 0, 0])) (S 26 [(0, .lst (fl Tapi_Source.enc x_0.Sources) x_0.Sources.length), (1, .lst (fl Tapi_Source.enc y_1.Sources) y_1.Sources.length), (12, .int .i64 (↑x_0.Sources.length : Int)), (13, .int .i64 (↑(0 : Nat) : Int))] []) .ret (S 26 [(4, .bool false)] []))]))))))))) (by kernel_rfl) (by kernel_rfl) (allOk_append.2 ⟨(ok1 (beq_t c1)), (allOk_append.2 ⟨(ok1 (beq_t c2)), (allOk_append.2 ⟨(ok1 (beq_t c3)), (allOk_append.2 ⟨(ok1 (beq_t c4)), (allOk_append.2 ⟨(ok1 (beq_t c5)), (allOk_append.2 ⟨(ok1 (beq_t c6)), (allOk_append.2 ⟨(ok1 (beq_t c7)), (allOk_append.2 ⟨(batch_Same_C1_p10q x_0 y_1 c8), (ok1 (batch_Same_C1_L9_does x_0 y_1 (s := (0 : Nat)) (r := Sum.inl o9) hl9))⟩)⟩)⟩)⟩)⟩)⟩)⟩)⟩)
theorem batch_Same_C1_1 (x_0 : Tapi_Passage) (y_1 : Tapi_Passage) (c1 : x_0.ID = y_1.ID) (c2 : x_0.Point = y_1.Point) (c3 : x_0.Time = y_1.Time) (c4 : x_0.Tag = y_1.Tag) (c5 : x_0.Plate = y_1.Plate) (c6 : x_0.Class = y_1.Class) (c7 : x_0.Score = y_1.Score) (c8 : (↑x_0.Sources.length : Int) = (↑y_1.Sources.length : Int)) (o9 : Unit) (hl9 : lp (batch_Same_C1_L9_step x_0 y_1) (0 : Nat) = some (Sum.inr (o9))) : Ret Tryz.prog GT 24 [.agg (Tapi_Passage.enc x_0), .agg (Tapi_Passage.enc y_1)] (.bool true) [] :=
  Ret.of_view 400 ((batch_Same_C1_h1) ++ ((batch_Same_C1_h2) ++ ((batch_Same_C1_h3) ++ ((batch_Same_C1_h4) ++ ((batch_Same_C1_h5) ++ ((batch_Same_C1_h6) ++ ((batch_Same_C1_h7) ++ ((batch_Same_C1_h8) ++ ((batch_Same_C1_h9) ++ ((.fcut 0 (.exit 0) [] [] [] [(0, .lst (fl Tapi_Source.enc x_0.Sources) x_0.Sources.length), (1, .lst (fl Tapi_Source.enc y_1.Sources) y_1.Sources.length), (12, .int .i64 (↑x_0.Sources.length : Int)), (13, .int .i64 (↑(0 : Nat) : Int))] []) :: (cs 3 []))))))))))) [] (ps := ([((x_0.ID == y_1.ID) = true)] ++ ([((x_0.Point == y_1.Point) = true)] ++ ([((x_0.Time == y_1.Time) = true)] ++ ([((x_0.Tag == y_1.Tag) = true)] ++ ([((x_0.Plate == y_1.Plate) = true)] ++ ([((x_0.Class == y_1.Class) = true)] ++ ([((x_0.Score == y_1.Score) = true)] ++ ((batch_Same_C1_p10 x_0 y_1) ++ [(Does Tryz.prog GT 0 (.loop (bodyAt Tryz.prog 25 [1, 1, 0, 1, 0, 0])) (S 26 [(0, .lst (fl Tapi_Source.enc x_0.Sources) x_0.Sources.length), (1, .lst (fl Tapi_Source.enc y_1.Sources) y_1.Sources.length), (12, .int .i64 (↑x_0.Sources.length : Int)), (13, .int .i64 (↑(0 : Nat) : Int))] []) (.exit 0) (S 26 [] []))]))))))))) (by kernel_rfl) (by kernel_rfl) (allOk_append.2 ⟨(ok1 (beq_t c1)), (allOk_append.2 ⟨(ok1 (beq_t c2)), (allOk_append.2 ⟨(ok1 (beq_t c3)), (allOk_append.2 ⟨(ok1 (beq_t c4)), (allOk_append.2 ⟨(ok1 (beq_t c5)), (allOk_append.2 ⟨(ok1 (beq_t c6)), (allOk_append.2 ⟨(ok1 (beq_t c7)), (allOk_append.2 ⟨(batch_Same_C1_p10q x_0 y_1 c8), (ok1 (batch_Same_C1_L9_does x_0 y_1 (s := (0 : Nat)) (r := Sum.inr (o9)) hl9))⟩)⟩)⟩)⟩)⟩)⟩)⟩)⟩)
theorem batch_Same_C1_2 (x_0 : Tapi_Passage) (y_1 : Tapi_Passage) (c1 : x_0.ID = y_1.ID) (c2 : x_0.Point = y_1.Point) (c3 : x_0.Time = y_1.Time) (c4 : x_0.Tag = y_1.Tag) (c5 : x_0.Plate = y_1.Plate) (c6 : x_0.Class = y_1.Class) (c7 : x_0.Score = y_1.Score) (c8 : ¬ ((↑x_0.Sources.length : Int) = (↑y_1.Sources.length : Int))) : Ret Tryz.prog GT 24 [.agg (Tapi_Passage.enc x_0), .agg (Tapi_Passage.enc y_1)] (.bool false) [] :=
  Ret.of_view 400 ((batch_Same_C1_h1) ++ ((batch_Same_C1_h2) ++ ((batch_Same_C1_h3) ++ ((batch_Same_C1_h4) ++ ((batch_Same_C1_h5) ++ ((batch_Same_C1_h6) ++ ((batch_Same_C1_h7) ++ ((batch_Same_C1_h8) ++ ((.br true) :: (cs 3 [])))))))))) [] (ps := ([((x_0.ID == y_1.ID) = true)] ++ ([((x_0.Point == y_1.Point) = true)] ++ ([((x_0.Time == y_1.Time) = true)] ++ ([((x_0.Tag == y_1.Tag) = true)] ++ ([((x_0.Plate == y_1.Plate) = true)] ++ ([((x_0.Class == y_1.Class) = true)] ++ ([((x_0.Score == y_1.Score) = true)] ++ [((!((↑x_0.Sources.length : Int) == (↑y_1.Sources.length : Int))) = true)])))))))) (by kernel_rfl) (by kernel_rfl) (allOk_append.2 ⟨(ok1 (beq_t c1)), (allOk_append.2 ⟨(ok1 (beq_t c2)), (allOk_append.2 ⟨(ok1 (beq_t c3)), (allOk_append.2 ⟨(ok1 (beq_t c4)), (allOk_append.2 ⟨(ok1 (beq_t c5)), (allOk_append.2 ⟨(ok1 (beq_t c6)), (allOk_append.2 ⟨(ok1 (beq_t c7)), (ok1 (not_t (beq_f c8)))⟩)⟩)⟩)⟩)⟩)⟩)⟩)
theorem batch_Same_C1_3 (x_0 : Tapi_Passage) (y_1 : Tapi_Passage) (c1 : x_0.ID = y_1.ID) (c2 : x_0.Point = y_1.Point) (c3 : x_0.Time = y_1.Time) (c4 : x_0.Tag = y_1.Tag) (c5 : x_0.Plate = y_1.Plate) (c6 : x_0.Class = y_1.Class) (c7 : ¬ (x_0.Score = y_1.Score)) : Ret Tryz.prog GT 24 [.agg (Tapi_Passage.enc x_0), .agg (Tapi_Passage.enc y_1)] (.bool false) [] :=
  Ret.of_view 400 ((batch_Same_C1_h1) ++ ((batch_Same_C1_h2) ++ ((batch_Same_C1_h3) ++ ((batch_Same_C1_h4) ++ ((batch_Same_C1_h5) ++ ((batch_Same_C1_h6) ++ ((batch_Same_C1_h7) ++ ((.op (some false) .c) :: (cs 6 []))))))))) [] (ps := ([((x_0.ID == y_1.ID) = true)] ++ ([((x_0.Point == y_1.Point) = true)] ++ ([((x_0.Time == y_1.Time) = true)] ++ ([((x_0.Tag == y_1.Tag) = true)] ++ ([((x_0.Plate == y_1.Plate) = true)] ++ ([((x_0.Class == y_1.Class) = true)] ++ [((x_0.Score == y_1.Score) = false)]))))))) (by kernel_rfl) (by kernel_rfl) (allOk_append.2 ⟨(ok1 (beq_t c1)), (allOk_append.2 ⟨(ok1 (beq_t c2)), (allOk_append.2 ⟨(ok1 (beq_t c3)), (allOk_append.2 ⟨(ok1 (beq_t c4)), (allOk_append.2 ⟨(ok1 (beq_t c5)), (allOk_append.2 ⟨(ok1 (beq_t c6)), (ok1 (beq_f c7))⟩)⟩)⟩)⟩)⟩)⟩)
theorem batch_Same_C1_4 (x_0 : Tapi_Passage) (y_1 : Tapi_Passage) (c1 : x_0.ID = y_1.ID) (c2 : x_0.Point = y_1.Point) (c3 : x_0.Time = y_1.Time) (c4 : x_0.Tag = y_1.Tag) (c5 : x_0.Plate = y_1.Plate) (c6 : ¬ (x_0.Class = y_1.Class)) : Ret Tryz.prog GT 24 [.agg (Tapi_Passage.enc x_0), .agg (Tapi_Passage.enc y_1)] (.bool false) [] :=
  Ret.of_view 400 ((batch_Same_C1_h1) ++ ((batch_Same_C1_h2) ++ ((batch_Same_C1_h3) ++ ((batch_Same_C1_h4) ++ ((batch_Same_C1_h5) ++ ((batch_Same_C1_h6) ++ ((.op (some false) .c) :: (cs 13 [])))))))) [] (ps := ([((x_0.ID == y_1.ID) = true)] ++ ([((x_0.Point == y_1.Point) = true)] ++ ([((x_0.Time == y_1.Time) = true)] ++ ([((x_0.Tag == y_1.Tag) = true)] ++ ([((x_0.Plate == y_1.Plate) = true)] ++ [((x_0.Class == y_1.Class) = false)])))))) (by kernel_rfl) (by kernel_rfl) (allOk_append.2 ⟨(ok1 (beq_t c1)), (allOk_append.2 ⟨(ok1 (beq_t c2)), (allOk_append.2 ⟨(ok1 (beq_t c3)), (allOk_append.2 ⟨(ok1 (beq_t c4)), (allOk_append.2 ⟨(ok1 (beq_t c5)), (ok1 (beq_f c6))⟩)⟩)⟩)⟩)⟩)
theorem batch_Same_C1_5 (x_0 : Tapi_Passage) (y_1 : Tapi_Passage) (c1 : x_0.ID = y_1.ID) (c2 : x_0.Point = y_1.Point) (c3 : x_0.Time = y_1.Time) (c4 : x_0.Tag = y_1.Tag) (c5 : ¬ (x_0.Plate = y_1.Plate)) : Ret Tryz.prog GT 24 [.agg (Tapi_Passage.enc x_0), .agg (Tapi_Passage.enc y_1)] (.bool false) [] :=
  Ret.of_view 400 ((batch_Same_C1_h1) ++ ((batch_Same_C1_h2) ++ ((batch_Same_C1_h3) ++ ((batch_Same_C1_h4) ++ ((batch_Same_C1_h5) ++ ((.op (some false) .c) :: (cs 20 []))))))) [] (ps := ([((x_0.ID == y_1.ID) = true)] ++ ([((x_0.Point == y_1.Point) = true)] ++ ([((x_0.Time == y_1.Time) = true)] ++ ([((x_0.Tag == y_1.Tag) = true)] ++ [((x_0.Plate == y_1.Plate) = false)]))))) (by kernel_rfl) (by kernel_rfl) (allOk_append.2 ⟨(ok1 (beq_t c1)), (allOk_append.2 ⟨(ok1 (beq_t c2)), (allOk_append.2 ⟨(ok1 (beq_t c3)), (allOk_append.2 ⟨(ok1 (beq_t c4)), (ok1 (beq_f c5))⟩)⟩)⟩)⟩)
theorem batch_Same_C1_6 (x_0 : Tapi_Passage) (y_1 : Tapi_Passage) (c1 : x_0.ID = y_1.ID) (c2 : x_0.Point = y_1.Point) (c3 : x_0.Time = y_1.Time) (c4 : ¬ (x_0.Tag = y_1.Tag)) : Ret Tryz.prog GT 24 [.agg (Tapi_Passage.enc x_0), .agg (Tapi_Passage.enc y_1)] (.bool false) [] :=
  Ret.of_view 400 ((batch_Same_C1_h1) ++ ((batch_Same_C1_h2) ++ ((batch_Same_C1_h3) ++ ((batch_Same_C1_h4) ++ ((.op (some false) .c) :: (cs 27 [])))))) [] (ps := ([((x_0.ID == y_1.ID) = true)] ++ ([((x_0.Point == y_1.Point) = true)] ++ ([((x_0.Time == y_1.Time) = true)] ++ [((x_0.Tag == y_1.Tag) = false)])))) (by kernel_rfl) (by kernel_rfl) (allOk_append.2 ⟨(ok1 (beq_t c1)), (allOk_append.2 ⟨(ok1 (beq_t c2)), (allOk_append.2 ⟨(ok1 (beq_t c3)), (ok1 (beq_f c4))⟩)⟩)⟩)
theorem batch_Same_C1_7 (x_0 : Tapi_Passage) (y_1 : Tapi_Passage) (c1 : x_0.ID = y_1.ID) (c2 : x_0.Point = y_1.Point) (c3 : ¬ (x_0.Time = y_1.Time)) : Ret Tryz.prog GT 24 [.agg (Tapi_Passage.enc x_0), .agg (Tapi_Passage.enc y_1)] (.bool false) [] :=
  Ret.of_view 400 ((batch_Same_C1_h1) ++ ((batch_Same_C1_h2) ++ ((batch_Same_C1_h3) ++ ((.op (some false) .c) :: (cs 34 []))))) [] (ps := ([((x_0.ID == y_1.ID) = true)] ++ ([((x_0.Point == y_1.Point) = true)] ++ [((x_0.Time == y_1.Time) = false)]))) (by kernel_rfl) (by kernel_rfl) (allOk_append.2 ⟨(ok1 (beq_t c1)), (allOk_append.2 ⟨(ok1 (beq_t c2)), (ok1 (beq_f c3))⟩)⟩)
theorem batch_Same_C1_8 (x_0 : Tapi_Passage) (y_1 : Tapi_Passage) (c1 : x_0.ID = y_1.ID) (c2 : ¬ (x_0.Point = y_1.Point)) : Ret Tryz.prog GT 24 [.agg (Tapi_Passage.enc x_0), .agg (Tapi_Passage.enc y_1)] (.bool false) [] :=
  Ret.of_view 400 ((batch_Same_C1_h1) ++ ((batch_Same_C1_h2) ++ ((.op (some false) .c) :: (cs 41 [])))) [] (ps := ([((x_0.ID == y_1.ID) = true)] ++ [((x_0.Point == y_1.Point) = false)])) (by kernel_rfl) (by kernel_rfl) (allOk_append.2 ⟨(ok1 (beq_t c1)), (ok1 (beq_f c2))⟩)
theorem batch_Same_C1_9 (x_0 : Tapi_Passage) (y_1 : Tapi_Passage) (c1 : ¬ (x_0.ID = y_1.ID)) : Ret Tryz.prog GT 24 [.agg (Tapi_Passage.enc x_0), .agg (Tapi_Passage.enc y_1)] (.bool false) [] :=
  Ret.of_view 400 ((batch_Same_C1_h1) ++ ((.op (some false) .c) :: (cs 48 []))) [] (ps := [((x_0.ID == y_1.ID) = false)]) (by kernel_rfl) (by kernel_rfl) (ok1 (beq_f c1))
theorem batch_Same_C1_ret (x_0 : Tapi_Passage) (y_1 : Tapi_Passage) (r : Bool) (h : batch_Same_C1 x_0 y_1 = some r) : Ret Tryz.prog GT 24 [.agg (Tapi_Passage.enc x_0), .agg (Tapi_Passage.enc y_1)] (.bool r) [] := by
  unfold batch_Same_C1 at h
  rcases ite_some h with ⟨c1, h⟩ | ⟨c1, h⟩
  · rcases ite_some h with ⟨c2, h⟩ | ⟨c2, h⟩
    · rcases ite_some h with ⟨c3, h⟩ | ⟨c3, h⟩
      · rcases ite_some h with ⟨c4, h⟩ | ⟨c4, h⟩
        · rcases ite_some h with ⟨c5, h⟩ | ⟨c5, h⟩
          · rcases ite_some h with ⟨c6, h⟩ | ⟨c6, h⟩
            · rcases ite_some h with ⟨c7, h⟩ | ⟨c7, h⟩
              · rcases ite_some h with ⟨c8, h⟩ | ⟨c8, h⟩
                · obtain ⟨qq, hl9, h⟩ := bind_some h
                  rcases qq with o9 | o9
                  · dsimp only at h
                    simp only [Option.some.injEq] at h
                    subst h
                    exact batch_Same_C1_0 x_0 y_1 c1 c2 c3 c4 c5 c6 c7 c8 o9 hl9
                  · dsimp only at h
                    simp only [Option.some.injEq] at h
                    subst h
                    exact batch_Same_C1_1 x_0 y_1 c1 c2 c3 c4 c5 c6 c7 c8 o9 hl9
                · simp only [Option.some.injEq] at h
                  subst h
                  exact batch_Same_C1_2 x_0 y_1 c1 c2 c3 c4 c5 c6 c7 c8
              · simp only [Option.some.injEq] at h
                subst h
                exact batch_Same_C1_3 x_0 y_1 c1 c2 c3 c4 c5 c6 c7
            · simp only [Option.some.injEq] at h
              subst h
              exact batch_Same_C1_4 x_0 y_1 c1 c2 c3 c4 c5 c6
          · simp only [Option.some.injEq] at h
            subst h
            exact batch_Same_C1_5 x_0 y_1 c1 c2 c3 c4 c5
        · simp only [Option.some.injEq] at h
          subst h
          exact batch_Same_C1_6 x_0 y_1 c1 c2 c3 c4
      · simp only [Option.some.injEq] at h
        subst h
        exact batch_Same_C1_7 x_0 y_1 c1 c2 c3
    · simp only [Option.some.injEq] at h
      subst h
      exact batch_Same_C1_8 x_0 y_1 c1 c2
  · simp only [Option.some.injEq] at h
    subst h
    exact batch_Same_C1_9 x_0 y_1 c1
noncomputable def batch_Same_C2_L6_step (x_0 : Tapi_Trip) (y_1 : Tapi_Trip) : Nat → Option (Nat ⊕ (Unit ⊕ Unit)) := fun k13 =>
  if (↑k13 : Int) < (↑x_0.Stops.length : Int) then
    (x_0.Stops[k13]?).bind fun x15 =>
    (y_1.Stops[k13]?).bind fun x17 =>
    if ((x15.Point == x17.Point) && ((x15.Time == x17.Time) && ((x15.Passage == x17.Passage) && true))) = true then
      if InR .i64 ((↑k13 : Int) + 1) then
        some (Sum.inl (k13 + 1))
      else none
    else
      some (Sum.inr (Sum.inl ()))
  else
    some (Sum.inr (Sum.inr (())))
def batch_Same_C2_L6_H (x_0 : Tapi_Trip) (y_1 : Tapi_Trip) : Nat → St := fun (s : Nat) => S 26 [(0, .lst (fl Tapi_Stop.enc x_0.Stops) x_0.Stops.length), (1, .lst (fl Tapi_Stop.enc y_1.Stops) y_1.Stops.length), (12, .int .i64 (↑x_0.Stops.length : Int)), (13, .int .i64 (↑s : Int))] []
def batch_Same_C2_L6_h1 (k13 : Nat) (x15 : Tapi_Stop) (x17 : Tapi_Stop) : List CH := ((.br true) :: (cs 4 ((.op none (.i k13)) :: (.op none (.v [.str x15.Point, .int .i64 x15.Time, .str x15.Passage])) :: (cs 2 [.op none (.i k13), .op none (.v [.str x17.Point, .int .i64 x17.Time, .str x17.Passage]), .op none .c]))))
def batch_Same_C2_L6_p2 (x_0 : Tapi_Trip) (y_1 : Tapi_Trip) (k13 : Nat) (x15 : Tapi_Stop) (x17 : Tapi_Stop) : List Prop := [((decide ((↑k13 : Int) < (↑x_0.Stops.length : Int))) = true), ((↑k13 : Int) = ((k13 : Nat) : Int) ∧ k13 < x_0.Stops.length), ((fl Tapi_Stop.enc x_0.Stops) ≠ []), (sub (fl Tapi_Stop.enc x_0.Stops) (k13 * 3) 3 = [.str x15.Point, .int .i64 x15.Time, .str x15.Passage]), ((↑k13 : Int) = ((k13 : Nat) : Int) ∧ k13 < y_1.Stops.length), ((fl Tapi_Stop.enc y_1.Stops) ≠ []), (sub (fl Tapi_Stop.enc y_1.Stops) (k13 * 3) 3 = [.str x17.Point, .int .i64 x17.Time, .str x17.Passage])]
theorem batch_Same_C2_L6_p2q (x_0 : Tapi_Trip) (y_1 : Tapi_Trip) (k13 : Nat) (c14 : (↑k13 : Int) < (↑x_0.Stops.length : Int)) (x15 : Tapi_Stop) (h16 : x_0.Stops[k13]? = some x15) (x17 : Tapi_Stop) (h18 : y_1.Stops[k13]? = some x17) : allOk (batch_Same_C2_L6_p2 x_0 y_1 k13 x15 x17) := ⟨(decide_eq_true c14), ⟨rfl, get_lt h16⟩, (fl_ne (f := Tapi_Stop.enc) (z := 2) (fun _ => rfl) h16), (fl_sub0 (f := Tapi_Stop.enc) (z := 3) (j := k13) (fun _ => rfl) h16 rfl), ⟨rfl, get_lt h18⟩, (fl_ne (f := Tapi_Stop.enc) (z := 2) (fun _ => rfl) h18), ok1 (fl_sub0 (f := Tapi_Stop.enc) (z := 3) (j := k13) (fun _ => rfl) h18 rfl)⟩
theorem batch_Same_C2_L6_0 (x_0 : Tapi_Trip) (y_1 : Tapi_Trip) (k13 : Nat) (c14 : (↑k13 : Int) < (↑x_0.Stops.length : Int)) (x15 : Tapi_Stop) (h16 : x_0.Stops[k13]? = some x15) (x17 : Tapi_Stop) (h18 : y_1.Stops[k13]? = some x17) (c19 : ((x15.Point == x17.Point) && ((x15.Time == x17.Time) && ((x15.Passage == x17.Passage) && true))) = true) (h20 : InR .i64 ((↑k13 : Int) + 1)) : Does Tryz.prog GT 0 (bodyAt Tryz.prog 27 [1, 1, 0, 1, 0, 0]) (batch_Same_C2_L6_H x_0 y_1 k13) .normal (S 26 [(0, .lst (fl Tapi_Stop.enc x_0.Stops) x_0.Stops.length), (1, .lst (fl Tapi_Stop.enc y_1.Stops) y_1.Stops.length), (12, .int .i64 (↑x_0.Stops.length : Int)), (13, .int .i64 ((↑k13 : Int) + 1))] []) :=
  Does.of_viewM 0 400 ([.op none .a] ++ ((batch_Same_C2_L6_h1 k13 x15 x17) ++ [.br false, .op none .w, .op none .c])) [] (ps := ((batch_Same_C2_L6_p2 x_0 y_1 k13 x15 x17) ++ [((!((x15.Point == x17.Point) && ((x15.Time == x17.Time) && ((x15.Passage == x17.Passage) && true)))) = false), (IntKind.min .i64 ≤ ((↑k13 : Int) + 1) ∧ ((↑k13 : Int) + 1) ≤ IntKind.max .i64)])) (by kernel_rfl) (by kernel_rfl) (allOk_append.2 ⟨(batch_Same_C2_L6_p2q x_0 y_1 k13 c14 x15 h16 x17 h18), ⟨(not_f c19), ok1 h20⟩⟩)
theorem batch_Same_C2_L6_1 (x_0 : Tapi_Trip) (y_1 : Tapi_Trip) (k13 : Nat) (c14 : (↑k13 : Int) < (↑x_0.Stops.length : Int)) (x15 : Tapi_Stop) (h16 : x_0.Stops[k13]? = some x15) (x17 : Tapi_Stop) (h18 : y_1.Stops[k13]? = some x17) (c19 : ¬ (((x15.Point == x17.Point) && ((x15.Time == x17.Time) && ((x15.Passage == x17.Passage) && true))) = true)) : Does Tryz.prog GT 0 (bodyAt Tryz.prog 27 [1, 1, 0, 1, 0, 0]) (batch_Same_C2_L6_H x_0 y_1 k13) .ret (S 26 [(4, .bool false)] []) :=
  Does.of_viewM 0 400 ([.op none .a] ++ ((batch_Same_C2_L6_h1 k13 x15 x17) ++ [.br true, .op none .c])) [] (ps := ((batch_Same_C2_L6_p2 x_0 y_1 k13 x15 x17) ++ [((!((x15.Point == x17.Point) && ((x15.Time == x17.Time) && ((x15.Passage == x17.Passage) && true)))) = true)])) (by kernel_rfl) (by kernel_rfl) (allOk_append.2 ⟨(batch_Same_C2_L6_p2q x_0 y_1 k13 c14 x15 h16 x17 h18), (ok1 (not_t (eq_false_of_ne_true c19)))⟩)
theorem batch_Same_C2_L6_2 (x_0 : Tapi_Trip) (y_1 : Tapi_Trip) (k13 : Nat) (c14 : ¬ ((↑k13 : Int) < (↑x_0.Stops.length : Int))) : Does Tryz.prog GT 0 (bodyAt Tryz.prog 27 [1, 1, 0, 1, 0, 0]) (batch_Same_C2_L6_H x_0 y_1 k13) (.exit 0) (S 26 [] []) :=
  Does.of_viewM 0 400 ([.op none .a] ++ [.br false]) [] (ps := [((decide ((↑k13 : Int) < (↑x_0.Stops.length : Int))) = false)]) (by kernel_rfl) (by kernel_rfl) (ok1 (decide_eq_false c14))
def batch_Same_C2_L6_X (x_0 : Tapi_Trip) (y_1 : Tapi_Trip) : (Unit ⊕ Unit) → AEx := fun q => match q with | Sum.inl o => .ret | Sum.inr (o) => (.exit 0)
def batch_Same_C2_L6_E (x_0 : Tapi_Trip) (y_1 : Tapi_Trip) : (Unit ⊕ Unit) → St := fun q => match q with | Sum.inl o => S 26 [(4, .bool false)] [] | Sum.inr (o) => S 26 [] []
theorem batch_Same_C2_L6_does (x_0 : Tapi_Trip) (y_1 : Tapi_Trip) {s : Nat} {r : Unit ⊕ Unit} (h : lp (batch_Same_C2_L6_step x_0 y_1) s = some r) : Does Tryz.prog GT 0 (.loop (bodyAt Tryz.prog 27 [1, 1, 0, 1, 0, 0])) (batch_Same_C2_L6_H x_0 y_1 s) (batch_Same_C2_L6_X x_0 y_1 r) (batch_Same_C2_L6_E x_0 y_1 r) := by
  refine Does.lp (H := batch_Same_C2_L6_H x_0 y_1) (X := batch_Same_C2_L6_X x_0 y_1) (E := batch_Same_C2_L6_E x_0 y_1) (fun s s2 h => ?_) (fun s r h => ?_) h
  · revert h; revert s; intro k13 h
    unfold batch_Same_C2_L6_step at h
    try dsimp only at h
    rcases ite_some h with ⟨c14, h⟩ | ⟨c14, h⟩
    · obtain ⟨x15, h16, h⟩ := bind_some h
      obtain ⟨x17, h18, h⟩ := bind_some h
      rcases ite_some h with ⟨c19, h⟩ | ⟨c19, h⟩
      · obtain ⟨h20, h⟩ := guard_some h
        simp only [Option.some.injEq, Sum.inl.injEq] at h
        subst h
        have hq := batch_Same_C2_L6_0 x_0 y_1 k13 c14 x15 h16 x17 h18 c19 h20
        first | exact hq | exact Eq.mp (by simp only [batch_Same_C2_L6_H, List.length_set] <;> rfl) hq
      · simp at h
    · simp at h
  · revert h; revert s; intro k13 h
    unfold batch_Same_C2_L6_step at h
    try dsimp only at h
    rcases ite_some h with ⟨c14, h⟩ | ⟨c14, h⟩
    · obtain ⟨x15, h16, h⟩ := bind_some h
      obtain ⟨x17, h18, h⟩ := bind_some h
      rcases ite_some h with ⟨c19, h⟩ | ⟨c19, h⟩
      · obtain ⟨h20, h⟩ := guard_some h
        simp at h
      · simp only [Option.some.injEq, Sum.inr.injEq] at h
        subst h
        exact ⟨batch_Same_C2_L6_1 x_0 y_1 k13 c14 x15 h16 x17 h18 c19, by intro q; cases q⟩
    · simp only [Option.some.injEq, Sum.inr.injEq] at h
      subst h
      exact ⟨batch_Same_C2_L6_2 x_0 y_1 k13 c14, by intro q; cases q⟩
noncomputable def batch_Same_C2 (x_0 : Tapi_Trip) (y_1 : Tapi_Trip) : Option Bool :=
  if x_0.ID = y_1.ID then
    if x_0.Vehicle = y_1.Vehicle then
      if x_0.System = y_1.System then
        if x_0.Class = y_1.Class then
          if (↑x_0.Stops.length : Int) = (↑y_1.Stops.length : Int) then
            (lp (batch_Same_C2_L6_step x_0 y_1) (0 : Nat)).bind fun qq => match qq with
            | Sum.inl o6 =>
              some false
            | Sum.inr (o6) =>
              some true
          else
            some false
        else
          some false
      else
        some false
    else
      some false
  else
    some false
def batch_Same_C2_h1  : List CH := (cs 7 [.op none .a, .op none .c])
def batch_Same_C2_h2  : List CH := ((.op (some true) .c) :: (cs 3 ((.op none .a) :: (cs 2 []))))
def batch_Same_C2_h3  : List CH := ((.op (some true) .c) :: (cs 3 ((.op none .a) :: (cs 2 []))))
def batch_Same_C2_h4  : List CH := ((.op (some true) .c) :: (cs 3 ((.op none .a) :: (cs 2 []))))
def batch_Same_C2_h5  : List CH := ((.op (some true) .c) :: (cs 9 [.op none .a]))
def batch_Same_C2_h6  : List CH := ((.br false) :: (cs 3 []))
def batch_Same_C2_p7 (x_0 : Tapi_Trip) (y_1 : Tapi_Trip) : List Prop := [((!((↑x_0.Stops.length : Int) == (↑y_1.Stops.length : Int))) = false), ((.lst (fl Tapi_Stop.enc x_0.Stops) x_0.Stops.length : AV) = .lst (fl Tapi_Stop.enc x_0.Stops) x_0.Stops.length), ((.lst (fl Tapi_Stop.enc y_1.Stops) y_1.Stops.length : AV) = .lst (fl Tapi_Stop.enc y_1.Stops) y_1.Stops.length), ((.int .i64 (↑x_0.Stops.length : Int) : AV) = .int .i64 (↑x_0.Stops.length : Int)), ((.int .i64 0 : AV) = .int .i64 (↑(0 : Nat) : Int))]
theorem batch_Same_C2_p7q (x_0 : Tapi_Trip) (y_1 : Tapi_Trip) (c5 : (↑x_0.Stops.length : Int) = (↑y_1.Stops.length : Int)) : allOk (batch_Same_C2_p7 x_0 y_1) := ⟨(not_f (beq_t c5)), rfl, rfl, rfl, ok1 rfl⟩
theorem batch_Same_C2_0 (x_0 : Tapi_Trip) (y_1 : Tapi_Trip) (c1 : x_0.ID = y_1.ID) (c2 : x_0.Vehicle = y_1.Vehicle) (c3 : x_0.System = y_1.System) (c4 : x_0.Class = y_1.Class) (c5 : (↑x_0.Stops.length : Int) = (↑y_1.Stops.length : Int)) (o6 : Unit) (hl6 : lp (batch_Same_C2_L6_step x_0 y_1) (0 : Nat) = some (Sum.inl o6)) : Ret Tryz.prog GT 26 [.agg (Tapi_Trip.enc x_0), .agg (Tapi_Trip.enc y_1)] (.bool false) [] :=
  Ret.of_view 400 ((batch_Same_C2_h1) ++ ((batch_Same_C2_h2) ++ ((batch_Same_C2_h3) ++ ((batch_Same_C2_h4) ++ ((batch_Same_C2_h5) ++ ((batch_Same_C2_h6) ++ ((.fcut 0 .ret [(4, .bool false)] [] [] [(0, .lst (fl Tapi_Stop.enc x_0.Stops) x_0.Stops.length), (1, .lst (fl Tapi_Stop.enc y_1.Stops) y_1.Stops.length), (12, .int .i64 (↑x_0.Stops.length : Int)), (13, .int .i64 (↑(0 : Nat) : Int))] []) :: (cs 2 [])))))))) [] (ps := ([((x_0.ID == y_1.ID) = true)] ++ ([((x_0.Vehicle == y_1.Vehicle) = true)] ++ ([((x_0.System == y_1.System) = true)] ++ ([((x_0.Class == y_1.Class) = true)] ++ ((batch_Same_C2_p7 x_0 y_1) ++ [(Does Tryz.prog GT 0 (.loop (bodyAt Tryz.prog 27 [1, 1, 0, 1, 0, 0])) (S 26 [(0, .lst (fl Tapi_Stop.enc x_0.Stops) x_0.Stops.length), (1, .lst (fl Tapi_Stop.enc y_1.Stops) y_1.Stops.length), (12, .int .i64 (↑x_0.Stops.length : Int)), (13, .int .i64 (↑(0 : Nat) : Int))] []) .ret (S 26 [(4, .bool false)] []))])))))) (by kernel_rfl) (by kernel_rfl) (allOk_append.2 ⟨(ok1 (beq_t c1)), (allOk_append.2 ⟨(ok1 (beq_t c2)), (allOk_append.2 ⟨(ok1 (beq_t c3)), (allOk_append.2 ⟨(ok1 (beq_t c4)), (allOk_append.2 ⟨(batch_Same_C2_p7q x_0 y_1 c5), (ok1 (batch_Same_C2_L6_does x_0 y_1 (s := (0 : Nat)) (r := Sum.inl o6) hl6))⟩)⟩)⟩)⟩)⟩)
theorem batch_Same_C2_1 (x_0 : Tapi_Trip) (y_1 : Tapi_Trip) (c1 : x_0.ID = y_1.ID) (c2 : x_0.Vehicle = y_1.Vehicle) (c3 : x_0.System = y_1.System) (c4 : x_0.Class = y_1.Class) (c5 : (↑x_0.Stops.length : Int) = (↑y_1.Stops.length : Int)) (o6 : Unit) (hl6 : lp (batch_Same_C2_L6_step x_0 y_1) (0 : Nat) = some (Sum.inr (o6))) : Ret Tryz.prog GT 26 [.agg (Tapi_Trip.enc x_0), .agg (Tapi_Trip.enc y_1)] (.bool true) [] :=
  Ret.of_view 400 ((batch_Same_C2_h1) ++ ((batch_Same_C2_h2) ++ ((batch_Same_C2_h3) ++ ((batch_Same_C2_h4) ++ ((batch_Same_C2_h5) ++ ((batch_Same_C2_h6) ++ ((.fcut 0 (.exit 0) [] [] [] [(0, .lst (fl Tapi_Stop.enc x_0.Stops) x_0.Stops.length), (1, .lst (fl Tapi_Stop.enc y_1.Stops) y_1.Stops.length), (12, .int .i64 (↑x_0.Stops.length : Int)), (13, .int .i64 (↑(0 : Nat) : Int))] []) :: (cs 3 [])))))))) [] (ps := ([((x_0.ID == y_1.ID) = true)] ++ ([((x_0.Vehicle == y_1.Vehicle) = true)] ++ ([((x_0.System == y_1.System) = true)] ++ ([((x_0.Class == y_1.Class) = true)] ++ ((batch_Same_C2_p7 x_0 y_1) ++ [(Does Tryz.prog GT 0 (.loop (bodyAt Tryz.prog 27 [1, 1, 0, 1, 0, 0])) (S 26 [(0, .lst (fl Tapi_Stop.enc x_0.Stops) x_0.Stops.length), (1, .lst (fl Tapi_Stop.enc y_1.Stops) y_1.Stops.length), (12, .int .i64 (↑x_0.Stops.length : Int)), (13, .int .i64 (↑(0 : Nat) : Int))] []) (.exit 0) (S 26 [] []))])))))) (by kernel_rfl) (by kernel_rfl) (allOk_append.2 ⟨(ok1 (beq_t c1)), (allOk_append.2 ⟨(ok1 (beq_t c2)), (allOk_append.2 ⟨(ok1 (beq_t c3)), (allOk_append.2 ⟨(ok1 (beq_t c4)), (allOk_append.2 ⟨(batch_Same_C2_p7q x_0 y_1 c5), (ok1 (batch_Same_C2_L6_does x_0 y_1 (s := (0 : Nat)) (r := Sum.inr (o6)) hl6))⟩)⟩)⟩)⟩)⟩)
theorem batch_Same_C2_2 (x_0 : Tapi_Trip) (y_1 : Tapi_Trip) (c1 : x_0.ID = y_1.ID) (c2 : x_0.Vehicle = y_1.Vehicle) (c3 : x_0.System = y_1.System) (c4 : x_0.Class = y_1.Class) (c5 : ¬ ((↑x_0.Stops.length : Int) = (↑y_1.Stops.length : Int))) : Ret Tryz.prog GT 26 [.agg (Tapi_Trip.enc x_0), .agg (Tapi_Trip.enc y_1)] (.bool false) [] :=
  Ret.of_view 400 ((batch_Same_C2_h1) ++ ((batch_Same_C2_h2) ++ ((batch_Same_C2_h3) ++ ((batch_Same_C2_h4) ++ ((batch_Same_C2_h5) ++ ((.br true) :: (cs 3 []))))))) [] (ps := ([((x_0.ID == y_1.ID) = true)] ++ ([((x_0.Vehicle == y_1.Vehicle) = true)] ++ ([((x_0.System == y_1.System) = true)] ++ ([((x_0.Class == y_1.Class) = true)] ++ [((!((↑x_0.Stops.length : Int) == (↑y_1.Stops.length : Int))) = true)]))))) (by kernel_rfl) (by kernel_rfl) (allOk_append.2 ⟨(ok1 (beq_t c1)), (allOk_append.2 ⟨(ok1 (beq_t c2)), (allOk_append.2 ⟨(ok1 (beq_t c3)), (allOk_append.2 ⟨(ok1 (beq_t c4)), (ok1 (not_t (beq_f c5)))⟩)⟩)⟩)⟩)
theorem batch_Same_C2_3 (x_0 : Tapi_Trip) (y_1 : Tapi_Trip) (c1 : x_0.ID = y_1.ID) (c2 : x_0.Vehicle = y_1.Vehicle) (c3 : x_0.System = y_1.System) (c4 : ¬ (x_0.Class = y_1.Class)) : Ret Tryz.prog GT 26 [.agg (Tapi_Trip.enc x_0), .agg (Tapi_Trip.enc y_1)] (.bool false) [] :=
  Ret.of_view 400 ((batch_Same_C2_h1) ++ ((batch_Same_C2_h2) ++ ((batch_Same_C2_h3) ++ ((batch_Same_C2_h4) ++ ((.op (some false) .c) :: (cs 6 [])))))) [] (ps := ([((x_0.ID == y_1.ID) = true)] ++ ([((x_0.Vehicle == y_1.Vehicle) = true)] ++ ([((x_0.System == y_1.System) = true)] ++ [((x_0.Class == y_1.Class) = false)])))) (by kernel_rfl) (by kernel_rfl) (allOk_append.2 ⟨(ok1 (beq_t c1)), (allOk_append.2 ⟨(ok1 (beq_t c2)), (allOk_append.2 ⟨(ok1 (beq_t c3)), (ok1 (beq_f c4))⟩)⟩)⟩)
theorem batch_Same_C2_4 (x_0 : Tapi_Trip) (y_1 : Tapi_Trip) (c1 : x_0.ID = y_1.ID) (c2 : x_0.Vehicle = y_1.Vehicle) (c3 : ¬ (x_0.System = y_1.System)) : Ret Tryz.prog GT 26 [.agg (Tapi_Trip.enc x_0), .agg (Tapi_Trip.enc y_1)] (.bool false) [] :=
  Ret.of_view 400 ((batch_Same_C2_h1) ++ ((batch_Same_C2_h2) ++ ((batch_Same_C2_h3) ++ ((.op (some false) .c) :: (cs 13 []))))) [] (ps := ([((x_0.ID == y_1.ID) = true)] ++ ([((x_0.Vehicle == y_1.Vehicle) = true)] ++ [((x_0.System == y_1.System) = false)]))) (by kernel_rfl) (by kernel_rfl) (allOk_append.2 ⟨(ok1 (beq_t c1)), (allOk_append.2 ⟨(ok1 (beq_t c2)), (ok1 (beq_f c3))⟩)⟩)
theorem batch_Same_C2_5 (x_0 : Tapi_Trip) (y_1 : Tapi_Trip) (c1 : x_0.ID = y_1.ID) (c2 : ¬ (x_0.Vehicle = y_1.Vehicle)) : Ret Tryz.prog GT 26 [.agg (Tapi_Trip.enc x_0), .agg (Tapi_Trip.enc y_1)] (.bool false) [] :=
  Ret.of_view 400 ((batch_Same_C2_h1) ++ ((batch_Same_C2_h2) ++ ((.op (some false) .c) :: (cs 20 [])))) [] (ps := ([((x_0.ID == y_1.ID) = true)] ++ [((x_0.Vehicle == y_1.Vehicle) = false)])) (by kernel_rfl) (by kernel_rfl) (allOk_append.2 ⟨(ok1 (beq_t c1)), (ok1 (beq_f c2))⟩)
theorem batch_Same_C2_6 (x_0 : Tapi_Trip) (y_1 : Tapi_Trip) (c1 : ¬ (x_0.ID = y_1.ID)) : Ret Tryz.prog GT 26 [.agg (Tapi_Trip.enc x_0), .agg (Tapi_Trip.enc y_1)] (.bool false) [] :=
  Ret.of_view 400 ((batch_Same_C2_h1) ++ ((.op (some false) .c) :: (cs 27 []))) [] (ps := [((x_0.ID == y_1.ID) = false)]) (by kernel_rfl) (by kernel_rfl) (ok1 (beq_f c1))
theorem batch_Same_C2_ret (x_0 : Tapi_Trip) (y_1 : Tapi_Trip) (r : Bool) (h : batch_Same_C2 x_0 y_1 = some r) : Ret Tryz.prog GT 26 [.agg (Tapi_Trip.enc x_0), .agg (Tapi_Trip.enc y_1)] (.bool r) [] := by
  unfold batch_Same_C2 at h
  rcases ite_some h with ⟨c1, h⟩ | ⟨c1, h⟩
  · rcases ite_some h with ⟨c2, h⟩ | ⟨c2, h⟩
    · rcases ite_some h with ⟨c3, h⟩ | ⟨c3, h⟩
      · rcases ite_some h with ⟨c4, h⟩ | ⟨c4, h⟩
        · rcases ite_some h with ⟨c5, h⟩ | ⟨c5, h⟩
          · obtain ⟨qq, hl6, h⟩ := bind_some h
            rcases qq with o6 | o6
            · dsimp only at h
              simp only [Option.some.injEq] at h
              subst h
              exact batch_Same_C2_0 x_0 y_1 c1 c2 c3 c4 c5 o6 hl6
            · dsimp only at h
              simp only [Option.some.injEq] at h
              subst h
              exact batch_Same_C2_1 x_0 y_1 c1 c2 c3 c4 c5 o6 hl6
          · simp only [Option.some.injEq] at h
            subst h
            exact batch_Same_C2_2 x_0 y_1 c1 c2 c3 c4 c5
        · simp only [Option.some.injEq] at h
          subst h
          exact batch_Same_C2_3 x_0 y_1 c1 c2 c3 c4
      · simp only [Option.some.injEq] at h
        subst h
        exact batch_Same_C2_4 x_0 y_1 c1 c2 c3
    · simp only [Option.some.injEq] at h
      subst h
      exact batch_Same_C2_5 x_0 y_1 c1 c2
  · simp only [Option.some.injEq] at h
    subst h
    exact batch_Same_C2_6 x_0 y_1 c1
noncomputable def batch_Same_C3_L8_step (x_0 : Tapi_Charge) (y_1 : Tapi_Charge) : Nat → Option (Nat ⊕ (Unit ⊕ Unit)) := fun k13 =>
  if (↑k13 : Int) < (↑x_0.Lines.length : Int) then
    (x_0.Lines[k13]?).bind fun x17 =>
    (y_1.Lines[k13]?).bind fun x19 =>
    if ((x17.Text == x19.Text) && ((x17.Cents == x19.Cents) && true)) = true then
      if InR .i64 ((↑k13 : Int) + 1) then
        some (Sum.inl (k13 + 1))
      else none
    else
      some (Sum.inr (Sum.inl ()))
  else
    some (Sum.inr (Sum.inr (())))
def batch_Same_C3_L8_H (x_0 : Tapi_Charge) (y_1 : Tapi_Charge) : Nat → St := fun (s : Nat) => S 26 [(0, .lst (fl Tapi_Line.enc x_0.Lines) x_0.Lines.length), (1, .lst (fl Tapi_Line.enc y_1.Lines) y_1.Lines.length), (12, .int .i64 (↑x_0.Lines.length : Int)), (13, .int .i64 (↑s : Int))] []
def batch_Same_C3_L8_h1 (k13 : Nat) (x17 : Tapi_Line) (x19 : Tapi_Line) : List CH := ((.br true) :: (cs 4 ((.op none (.i k13)) :: (.op none (.v [.str x17.Text, .int .i64 x17.Cents])) :: (cs 2 [.op none (.i k13), .op none (.v [.str x19.Text, .int .i64 x19.Cents]), .op none .c]))))
def batch_Same_C3_L8_p2 (x_0 : Tapi_Charge) (y_1 : Tapi_Charge) (k13 : Nat) (x17 : Tapi_Line) (x19 : Tapi_Line) : List Prop := [((decide ((↑k13 : Int) < (↑x_0.Lines.length : Int))) = true), ((↑k13 : Int) = ((k13 : Nat) : Int) ∧ k13 < x_0.Lines.length), ((fl Tapi_Line.enc x_0.Lines) ≠ []), (sub (fl Tapi_Line.enc x_0.Lines) (k13 * 2) 2 = [.str x17.Text, .int .i64 x17.Cents]), ((↑k13 : Int) = ((k13 : Nat) : Int) ∧ k13 < y_1.Lines.length), ((fl Tapi_Line.enc y_1.Lines) ≠ []), (sub (fl Tapi_Line.enc y_1.Lines) (k13 * 2) 2 = [.str x19.Text, .int .i64 x19.Cents])]
theorem batch_Same_C3_L8_p2q (x_0 : Tapi_Charge) (y_1 : Tapi_Charge) (k13 : Nat) (c16 : (↑k13 : Int) < (↑x_0.Lines.length : Int)) (x17 : Tapi_Line) (h18 : x_0.Lines[k13]? = some x17) (x19 : Tapi_Line) (h20 : y_1.Lines[k13]? = some x19) : allOk (batch_Same_C3_L8_p2 x_0 y_1 k13 x17 x19) := ⟨(decide_eq_true c16), ⟨rfl, get_lt h18⟩, (fl_ne (f := Tapi_Line.enc) (z := 1) (fun _ => rfl) h18), (fl_sub0 (f := Tapi_Line.enc) (z := 2) (j := k13) (fun _ => rfl) h18 rfl), ⟨rfl, get_lt h20⟩, (fl_ne (f := Tapi_Line.enc) (z := 1) (fun _ => rfl) h20), ok1 (fl_sub0 (f := Tapi_Line.enc) (z := 2) (j := k13) (fun _ => rfl) h20 rfl)⟩
theorem batch_Same_C3_L8_0 (x_0 : Tapi_Charge) (y_1 : Tapi_Charge) (k13 : Nat) (c16 : (↑k13 : Int) < (↑x_0.Lines.length : Int)) (x17 : Tapi_Line) (h18 : x_0.Lines[k13]? = some x17) (x19 : Tapi_Line) (h20 : y_1.Lines[k13]? = some x19) (c21 : ((x17.Text == x19.Text) && ((x17.Cents == x19.Cents) && true)) = true) (h22 : InR .i64 ((↑k13 : Int) + 1)) : Does Tryz.prog GT 0 (bodyAt Tryz.prog 29 [1, 1, 0, 1, 0, 0]) (batch_Same_C3_L8_H x_0 y_1 k13) .normal (S 26 [(0, .lst (fl Tapi_Line.enc x_0.Lines) x_0.Lines.length), (1, .lst (fl Tapi_Line.enc y_1.Lines) y_1.Lines.length), (12, .int .i64 (↑x_0.Lines.length : Int)), (13, .int .i64 ((↑k13 : Int) + 1))] []) :=
  Does.of_viewM 0 400 ([.op none .a] ++ ((batch_Same_C3_L8_h1 k13 x17 x19) ++ [.br false, .op none .w, .op none .c])) [] (ps := ((batch_Same_C3_L8_p2 x_0 y_1 k13 x17 x19) ++ [((!((x17.Text == x19.Text) && ((x17.Cents == x19.Cents) && true))) = false), (IntKind.min .i64 ≤ ((↑k13 : Int) + 1) ∧ ((↑k13 : Int) + 1) ≤ IntKind.max .i64)])) (by kernel_rfl) (by kernel_rfl) (allOk_append.2 ⟨(batch_Same_C3_L8_p2q x_0 y_1 k13 c16 x17 h18 x19 h20), ⟨(not_f c21), ok1 h22⟩⟩)
theorem batch_Same_C3_L8_1 (x_0 : Tapi_Charge) (y_1 : Tapi_Charge) (k13 : Nat) (c16 : (↑k13 : Int) < (↑x_0.Lines.length : Int)) (x17 : Tapi_Line) (h18 : x_0.Lines[k13]? = some x17) (x19 : Tapi_Line) (h20 : y_1.Lines[k13]? = some x19) (c21 : ¬ (((x17.Text == x19.Text) && ((x17.Cents == x19.Cents) && true)) = true)) : Does Tryz.prog GT 0 (bodyAt Tryz.prog 29 [1, 1, 0, 1, 0, 0]) (batch_Same_C3_L8_H x_0 y_1 k13) .ret (S 26 [(4, .bool false)] []) :=
  Does.of_viewM 0 400 ([.op none .a] ++ ((batch_Same_C3_L8_h1 k13 x17 x19) ++ [.br true, .op none .c])) [] (ps := ((batch_Same_C3_L8_p2 x_0 y_1 k13 x17 x19) ++ [((!((x17.Text == x19.Text) && ((x17.Cents == x19.Cents) && true))) = true)])) (by kernel_rfl) (by kernel_rfl) (allOk_append.2 ⟨(batch_Same_C3_L8_p2q x_0 y_1 k13 c16 x17 h18 x19 h20), (ok1 (not_t (eq_false_of_ne_true c21)))⟩)
theorem batch_Same_C3_L8_2 (x_0 : Tapi_Charge) (y_1 : Tapi_Charge) (k13 : Nat) (c16 : ¬ ((↑k13 : Int) < (↑x_0.Lines.length : Int))) : Does Tryz.prog GT 0 (bodyAt Tryz.prog 29 [1, 1, 0, 1, 0, 0]) (batch_Same_C3_L8_H x_0 y_1 k13) (.exit 0) (S 26 [] []) :=
  Does.of_viewM 0 400 ([.op none .a] ++ [.br false]) [] (ps := [((decide ((↑k13 : Int) < (↑x_0.Lines.length : Int))) = false)]) (by kernel_rfl) (by kernel_rfl) (ok1 (decide_eq_false c16))
def batch_Same_C3_L8_X (x_0 : Tapi_Charge) (y_1 : Tapi_Charge) : (Unit ⊕ Unit) → AEx := fun q => match q with | Sum.inl o => .ret | Sum.inr (o) => (.exit 0)
def batch_Same_C3_L8_E (x_0 : Tapi_Charge) (y_1 : Tapi_Charge) : (Unit ⊕ Unit) → St := fun q => match q with | Sum.inl o => S 26 [(4, .bool false)] [] | Sum.inr (o) => S 26 [] []
theorem batch_Same_C3_L8_does (x_0 : Tapi_Charge) (y_1 : Tapi_Charge) {s : Nat} {r : Unit ⊕ Unit} (h : lp (batch_Same_C3_L8_step x_0 y_1) s = some r) : Does Tryz.prog GT 0 (.loop (bodyAt Tryz.prog 29 [1, 1, 0, 1, 0, 0])) (batch_Same_C3_L8_H x_0 y_1 s) (batch_Same_C3_L8_X x_0 y_1 r) (batch_Same_C3_L8_E x_0 y_1 r) := by
  refine Does.lp (H := batch_Same_C3_L8_H x_0 y_1) (X := batch_Same_C3_L8_X x_0 y_1) (E := batch_Same_C3_L8_E x_0 y_1) (fun s s2 h => ?_) (fun s r h => ?_) h
  · revert h; revert s; intro k13 h
    unfold batch_Same_C3_L8_step at h
    try dsimp only at h
    rcases ite_some h with ⟨c16, h⟩ | ⟨c16, h⟩
    · obtain ⟨x17, h18, h⟩ := bind_some h
      obtain ⟨x19, h20, h⟩ := bind_some h
      rcases ite_some h with ⟨c21, h⟩ | ⟨c21, h⟩
      · obtain ⟨h22, h⟩ := guard_some h
        simp only [Option.some.injEq, Sum.inl.injEq] at h
        subst h
        have hq := batch_Same_C3_L8_0 x_0 y_1 k13 c16 x17 h18 x19 h20 c21 h22
        first | exact hq | exact Eq.mp (by simp only [batch_Same_C3_L8_H, List.length_set] <;> rfl) hq
      · simp at h
    · simp at h
  · revert h; revert s; intro k13 h
    unfold batch_Same_C3_L8_step at h
    try dsimp only at h
    rcases ite_some h with ⟨c16, h⟩ | ⟨c16, h⟩
    · obtain ⟨x17, h18, h⟩ := bind_some h
      obtain ⟨x19, h20, h⟩ := bind_some h
      rcases ite_some h with ⟨c21, h⟩ | ⟨c21, h⟩
      · obtain ⟨h22, h⟩ := guard_some h
        simp at h
      · simp only [Option.some.injEq, Sum.inr.injEq] at h
        subst h
        exact ⟨batch_Same_C3_L8_1 x_0 y_1 k13 c16 x17 h18 x19 h20 c21, by intro q; cases q⟩
    · simp only [Option.some.injEq, Sum.inr.injEq] at h
      subst h
      exact ⟨batch_Same_C3_L8_2 x_0 y_1 k13 c16, by intro q; cases q⟩
noncomputable def batch_Same_C3 (x_0 : Tapi_Charge) (y_1 : Tapi_Charge) : Option Bool :=
  if x_0.Key = y_1.Key then
    if x_0.Vehicle = y_1.Vehicle then
      if x_0.System = y_1.System then
        if x_0.Class = y_1.Class then
          if x_0.Time = y_1.Time then
            if x_0.Cents = y_1.Cents then
              if (↑x_0.Lines.length : Int) = (↑y_1.Lines.length : Int) then
                (lp (batch_Same_C3_L8_step x_0 y_1) (0 : Nat)).bind fun qq => match qq with
                | Sum.inl o8 =>
                  some false
                | Sum.inr (o8) =>
                  some true
              else
                some false
            else
              some false
          else
            some false
        else
          some false
      else
        some false
    else
      some false
  else
    some false
def batch_Same_C3_h1  : List CH := (cs 7 [.op none .a, .op none .c])
def batch_Same_C3_h2  : List CH := ((.op (some true) .c) :: (cs 3 ((.op none .a) :: (cs 2 []))))
def batch_Same_C3_h3  : List CH := ((.op (some true) .c) :: (cs 3 ((.op none .a) :: (cs 2 []))))
def batch_Same_C3_h4  : List CH := ((.op (some true) .c) :: (cs 3 ((.op none .a) :: (cs 2 []))))
def batch_Same_C3_h5  : List CH := ((.op (some true) .c) :: (cs 3 ((.op none .a) :: (cs 2 []))))
def batch_Same_C3_h6  : List CH := ((.op (some true) .c) :: (cs 3 ((.op none .a) :: (cs 2 []))))
def batch_Same_C3_h7  : List CH := ((.op (some true) .c) :: (cs 9 [.op none .a]))
def batch_Same_C3_h8  : List CH := ((.br false) :: (cs 3 []))
def batch_Same_C3_p9 (x_0 : Tapi_Charge) (y_1 : Tapi_Charge) : List Prop := [((!((↑x_0.Lines.length : Int) == (↑y_1.Lines.length : Int))) = false), ((.lst (fl Tapi_Line.enc x_0.Lines) x_0.Lines.length : AV) = .lst (fl Tapi_Line.enc x_0.Lines) x_0.Lines.length), ((.lst (fl Tapi_Line.enc y_1.Lines) y_1.Lines.length : AV) = .lst (fl Tapi_Line.enc y_1.Lines) y_1.Lines.length), ((.int .i64 (↑x_0.Lines.length : Int) : AV) = .int .i64 (↑x_0.Lines.length : Int)), ((.int .i64 0 : AV) = .int .i64 (↑(0 : Nat) : Int))]
theorem batch_Same_C3_p9q (x_0 : Tapi_Charge) (y_1 : Tapi_Charge) (c7 : (↑x_0.Lines.length : Int) = (↑y_1.Lines.length : Int)) : allOk (batch_Same_C3_p9 x_0 y_1) := ⟨(not_f (beq_t c7)), rfl, rfl, rfl, ok1 rfl⟩
theorem batch_Same_C3_0 (x_0 : Tapi_Charge) (y_1 : Tapi_Charge) (c1 : x_0.Key = y_1.Key) (c2 : x_0.Vehicle = y_1.Vehicle) (c3 : x_0.System = y_1.System) (c4 : x_0.Class = y_1.Class) (c5 : x_0.Time = y_1.Time) (c6 : x_0.Cents = y_1.Cents) (c7 : (↑x_0.Lines.length : Int) = (↑y_1.Lines.length : Int)) (o8 : Unit) (hl8 : lp (batch_Same_C3_L8_step x_0 y_1) (0 : Nat) = some (Sum.inl o8)) : Ret Tryz.prog GT 28 [.agg (Tapi_Charge.enc x_0), .agg (Tapi_Charge.enc y_1)] (.bool false) [] :=
  Ret.of_view 400 ((batch_Same_C3_h1) ++ ((batch_Same_C3_h2) ++ ((batch_Same_C3_h3) ++ ((batch_Same_C3_h4) ++ ((batch_Same_C3_h5) ++ ((batch_Same_C3_h6) ++ ((batch_Same_C3_h7) ++ ((batch_Same_C3_h8) ++ ((.fcut 0 .ret [(4, .bool false)] [] [] [(0, .lst (fl Tapi_Line.enc x_0.Lines) x_0.Lines.length), (1, .lst (fl Tapi_Line.enc y_1.Lines) y_1.Lines.length), (12, .int .i64 (↑x_0.Lines.length : Int)), (13, .int .i64 (↑(0 : Nat) : Int))] []) :: (cs 2 [])))))))))) [] (ps := ([((x_0.Key == y_1.Key) = true)] ++ ([((x_0.Vehicle == y_1.Vehicle) = true)] ++ ([((x_0.System == y_1.System) = true)] ++ ([((x_0.Class == y_1.Class) = true)] ++ ([((x_0.Time == y_1.Time) = true)] ++ ([((x_0.Cents == y_1.Cents) = true)] ++ ((batch_Same_C3_p9 x_0 y_1) ++ [(Does Tryz.prog GT 0 (.loop (bodyAt Tryz.prog 29 [1, 1, 0, 1, 0, 0])) (S 26 [(0, .lst (fl Tapi_Line.enc x_0.Lines) x_0.Lines.length), (1, .lst (fl Tapi_Line.enc y_1.Lines) y_1.Lines.length), (12, .int .i64 (↑x_0.Lines.length : Int)), (13, .int .i64 (↑(0 : Nat) : Int))] []) .ret (S 26 [(4, .bool false)] []))])))))))) (by kernel_rfl) (by kernel_rfl) (allOk_append.2 ⟨(ok1 (beq_t c1)), (allOk_append.2 ⟨(ok1 (beq_t c2)), (allOk_append.2 ⟨(ok1 (beq_t c3)), (allOk_append.2 ⟨(ok1 (beq_t c4)), (allOk_append.2 ⟨(ok1 (beq_t c5)), (allOk_append.2 ⟨(ok1 (beq_t c6)), (allOk_append.2 ⟨(batch_Same_C3_p9q x_0 y_1 c7), (ok1 (batch_Same_C3_L8_does x_0 y_1 (s := (0 : Nat)) (r := Sum.inl o8) hl8))⟩)⟩)⟩)⟩)⟩)⟩)⟩)
theorem batch_Same_C3_1 (x_0 : Tapi_Charge) (y_1 : Tapi_Charge) (c1 : x_0.Key = y_1.Key) (c2 : x_0.Vehicle = y_1.Vehicle) (c3 : x_0.System = y_1.System) (c4 : x_0.Class = y_1.Class) (c5 : x_0.Time = y_1.Time) (c6 : x_0.Cents = y_1.Cents) (c7 : (↑x_0.Lines.length : Int) = (↑y_1.Lines.length : Int)) (o8 : Unit) (hl8 : lp (batch_Same_C3_L8_step x_0 y_1) (0 : Nat) = some (Sum.inr (o8))) : Ret Tryz.prog GT 28 [.agg (Tapi_Charge.enc x_0), .agg (Tapi_Charge.enc y_1)] (.bool true) [] :=
  Ret.of_view 400 ((batch_Same_C3_h1) ++ ((batch_Same_C3_h2) ++ ((batch_Same_C3_h3) ++ ((batch_Same_C3_h4) ++ ((batch_Same_C3_h5) ++ ((batch_Same_C3_h6) ++ ((batch_Same_C3_h7) ++ ((batch_Same_C3_h8) ++ ((.fcut 0 (.exit 0) [] [] [] [(0, .lst (fl Tapi_Line.enc x_0.Lines) x_0.Lines.length), (1, .lst (fl Tapi_Line.enc y_1.Lines) y_1.Lines.length), (12, .int .i64 (↑x_0.Lines.length : Int)), (13, .int .i64 (↑(0 : Nat) : Int))] []) :: (cs 3 [])))))))))) [] (ps := ([((x_0.Key == y_1.Key) = true)] ++ ([((x_0.Vehicle == y_1.Vehicle) = true)] ++ ([((x_0.System == y_1.System) = true)] ++ ([((x_0.Class == y_1.Class) = true)] ++ ([((x_0.Time == y_1.Time) = true)] ++ ([((x_0.Cents == y_1.Cents) = true)] ++ ((batch_Same_C3_p9 x_0 y_1) ++ [(Does Tryz.prog GT 0 (.loop (bodyAt Tryz.prog 29 [1, 1, 0, 1, 0, 0])) (S 26 [(0, .lst (fl Tapi_Line.enc x_0.Lines) x_0.Lines.length), (1, .lst (fl Tapi_Line.enc y_1.Lines) y_1.Lines.length), (12, .int .i64 (↑x_0.Lines.length : Int)), (13, .int .i64 (↑(0 : Nat) : Int))] []) (.exit 0) (S 26 [] []))])))))))) (by kernel_rfl) (by kernel_rfl) (allOk_append.2 ⟨(ok1 (beq_t c1)), (allOk_append.2 ⟨(ok1 (beq_t c2)), (allOk_append.2 ⟨(ok1 (beq_t c3)), (allOk_append.2 ⟨(ok1 (beq_t c4)), (allOk_append.2 ⟨(ok1 (beq_t c5)), (allOk_append.2 ⟨(ok1 (beq_t c6)), (allOk_append.2 ⟨(batch_Same_C3_p9q x_0 y_1 c7), (ok1 (batch_Same_C3_L8_does x_0 y_1 (s := (0 : Nat)) (r := Sum.inr (o8)) hl8))⟩)⟩)⟩)⟩)⟩)⟩)⟩)
theorem batch_Same_C3_2 (x_0 : Tapi_Charge) (y_1 : Tapi_Charge) (c1 : x_0.Key = y_1.Key) (c2 : x_0.Vehicle = y_1.Vehicle) (c3 : x_0.System = y_1.System) (c4 : x_0.Class = y_1.Class) (c5 : x_0.Time = y_1.Time) (c6 : x_0.Cents = y_1.Cents) (c7 : ¬ ((↑x_0.Lines.length : Int) = (↑y_1.Lines.length : Int))) : Ret Tryz.prog GT 28 [.agg (Tapi_Charge.enc x_0), .agg (Tapi_Charge.enc y_1)] (.bool false) [] :=
  Ret.of_view 400 ((batch_Same_C3_h1) ++ ((batch_Same_C3_h2) ++ ((batch_Same_C3_h3) ++ ((batch_Same_C3_h4) ++ ((batch_Same_C3_h5) ++ ((batch_Same_C3_h6) ++ ((batch_Same_C3_h7) ++ ((.br true) :: (cs 3 []))))))))) [] (ps := ([((x_0.Key == y_1.Key) = true)] ++ ([((x_0.Vehicle == y_1.Vehicle) = true)] ++ ([((x_0.System == y_1.System) = true)] ++ ([((x_0.Class == y_1.Class) = true)] ++ ([((x_0.Time == y_1.Time) = true)] ++ ([((x_0.Cents == y_1.Cents) = true)] ++ [((!((↑x_0.Lines.length : Int) == (↑y_1.Lines.length : Int))) = true)]))))))) (by kernel_rfl) (by kernel_rfl) (allOk_append.2 ⟨(ok1 (beq_t c1)), (allOk_append.2 ⟨(ok1 (beq_t c2)), (allOk_append.2 ⟨(ok1 (beq_t c3)), (allOk_append.2 ⟨(ok1 (beq_t c4)), (allOk_append.2 ⟨(ok1 (beq_t c5)), (allOk_append.2 ⟨(ok1 (beq_t c6)), (ok1 (not_t (beq_f c7)))⟩)⟩)⟩)⟩)⟩)⟩)
theorem batch_Same_C3_3 (x_0 : Tapi_Charge) (y_1 : Tapi_Charge) (c1 : x_0.Key = y_1.Key) (c2 : x_0.Vehicle = y_1.Vehicle) (c3 : x_0.System = y_1.System) (c4 : x_0.Class = y_1.Class) (c5 : x_0.Time = y_1.Time) (c6 : ¬ (x_0.Cents = y_1.Cents)) : Ret Tryz.prog GT 28 [.agg (Tapi_Charge.enc x_0), .agg (Tapi_Charge.enc y_1)] (.bool false) [] :=
  Ret.of_view 400 ((batch_Same_C3_h1) ++ ((batch_Same_C3_h2) ++ ((batch_Same_C3_h3) ++ ((batch_Same_C3_h4) ++ ((batch_Same_C3_h5) ++ ((batch_Same_C3_h6) ++ ((.op (some false) .c) :: (cs 6 [])))))))) [] (ps := ([((x_0.Key == y_1.Key) = true)] ++ ([((x_0.Vehicle == y_1.Vehicle) = true)] ++ ([((x_0.System == y_1.System) = true)] ++ ([((x_0.Class == y_1.Class) = true)] ++ ([((x_0.Time == y_1.Time) = true)] ++ [((x_0.Cents == y_1.Cents) = false)])))))) (by kernel_rfl) (by kernel_rfl) (allOk_append.2 ⟨(ok1 (beq_t c1)), (allOk_append.2 ⟨(ok1 (beq_t c2)), (allOk_append.2 ⟨(ok1 (beq_t c3)), (allOk_append.2 ⟨(ok1 (beq_t c4)), (allOk_append.2 ⟨(ok1 (beq_t c5)), (ok1 (beq_f c6))⟩)⟩)⟩)⟩)⟩)
theorem batch_Same_C3_4 (x_0 : Tapi_Charge) (y_1 : Tapi_Charge) (c1 : x_0.Key = y_1.Key) (c2 : x_0.Vehicle = y_1.Vehicle) (c3 : x_0.System = y_1.System) (c4 : x_0.Class = y_1.Class) (c5 : ¬ (x_0.Time = y_1.Time)) : Ret Tryz.prog GT 28 [.agg (Tapi_Charge.enc x_0), .agg (Tapi_Charge.enc y_1)] (.bool false) [] :=
  Ret.of_view 400 ((batch_Same_C3_h1) ++ ((batch_Same_C3_h2) ++ ((batch_Same_C3_h3) ++ ((batch_Same_C3_h4) ++ ((batch_Same_C3_h5) ++ ((.op (some false) .c) :: (cs 13 []))))))) [] (ps := ([((x_0.Key == y_1.Key) = true)] ++ ([((x_0.Vehicle == y_1.Vehicle) = true)] ++ ([((x_0.System == y_1.System) = true)] ++ ([((x_0.Class == y_1.Class) = true)] ++ [((x_0.Time == y_1.Time) = false)]))))) (by kernel_rfl) (by kernel_rfl) (allOk_append.2 ⟨(ok1 (beq_t c1)), (allOk_append.2 ⟨(ok1 (beq_t c2)), (allOk_append.2 ⟨(ok1 (beq_t c3)), (allOk_append.2 ⟨(ok1 (beq_t c4)), (ok1 (beq_f c5))⟩)⟩)⟩)⟩)
theorem batch_Same_C3_5 (x_0 : Tapi_Charge) (y_1 : Tapi_Charge) (c1 : x_0.Key = y_1.Key) (c2 : x_0.Vehicle = y_1.Vehicle) (c3 : x_0.System = y_1.System) (c4 : ¬ (x_0.Class = y_1.Class)) : Ret Tryz.prog GT 28 [.agg (Tapi_Charge.enc x_0), .agg (Tapi_Charge.enc y_1)] (.bool false) [] :=
  Ret.of_view 400 ((batch_Same_C3_h1) ++ ((batch_Same_C3_h2) ++ ((batch_Same_C3_h3) ++ ((batch_Same_C3_h4) ++ ((.op (some false) .c) :: (cs 20 [])))))) [] (ps := ([((x_0.Key == y_1.Key) = true)] ++ ([((x_0.Vehicle == y_1.Vehicle) = true)] ++ ([((x_0.System == y_1.System) = true)] ++ [((x_0.Class == y_1.Class) = false)])))) (by kernel_rfl) (by kernel_rfl) (allOk_append.2 ⟨(ok1 (beq_t c1)), (allOk_append.2 ⟨(ok1 (beq_t c2)), (allOk_append.2 ⟨(ok1 (beq_t c3)), (ok1 (beq_f c4))⟩)⟩)⟩)
theorem batch_Same_C3_6 (x_0 : Tapi_Charge) (y_1 : Tapi_Charge) (c1 : x_0.Key = y_1.Key) (c2 : x_0.Vehicle = y_1.Vehicle) (c3 : ¬ (x_0.System = y_1.System)) : Ret Tryz.prog GT 28 [.agg (Tapi_Charge.enc x_0), .agg (Tapi_Charge.enc y_1)] (.bool false) [] :=
  Ret.of_view 400 ((batch_Same_C3_h1) ++ ((batch_Same_C3_h2) ++ ((batch_Same_C3_h3) ++ ((.op (some false) .c) :: (cs 27 []))))) [] (ps := ([((x_0.Key == y_1.Key) = true)] ++ ([((x_0.Vehicle == y_1.Vehicle) = true)] ++ [((x_0.System == y_1.System) = false)]))) (by kernel_rfl) (by kernel_rfl) (allOk_append.2 ⟨(ok1 (beq_t c1)), (allOk_append.2 ⟨(ok1 (beq_t c2)), (ok1 (beq_f c3))⟩)⟩)
theorem batch_Same_C3_7 (x_0 : Tapi_Charge) (y_1 : Tapi_Charge) (c1 : x_0.Key = y_1.Key) (c2 : ¬ (x_0.Vehicle = y_1.Vehicle)) : Ret Tryz.prog GT 28 [.agg (Tapi_Charge.enc x_0), .agg (Tapi_Charge.enc y_1)] (.bool false) [] :=
  Ret.of_view 400 ((batch_Same_C3_h1) ++ ((batch_Same_C3_h2) ++ ((.op (some false) .c) :: (cs 34 [])))) [] (ps := ([((x_0.Key == y_1.Key) = true)] ++ [((x_0.Vehicle == y_1.Vehicle) = false)])) (by kernel_rfl) (by kernel_rfl) (allOk_append.2 ⟨(ok1 (beq_t c1)), (ok1 (beq_f c2))⟩)
theorem batch_Same_C3_8 (x_0 : Tapi_Charge) (y_1 : Tapi_Charge) (c1 : ¬ (x_0.Key = y_1.Key)) : Ret Tryz.prog GT 28 [.agg (Tapi_Charge.enc x_0), .agg (Tapi_Charge.enc y_1)] (.bool false) [] :=
  Ret.of_view 400 ((batch_Same_C3_h1) ++ ((.op (some false) .c) :: (cs 41 []))) [] (ps := [((x_0.Key == y_1.Key) = false)]) (by kernel_rfl) (by kernel_rfl) (ok1 (beq_f c1))
theorem batch_Same_C3_ret (x_0 : Tapi_Charge) (y_1 : Tapi_Charge) (r : Bool) (h : batch_Same_C3 x_0 y_1 = some r) : Ret Tryz.prog GT 28 [.agg (Tapi_Charge.enc x_0), .agg (Tapi_Charge.enc y_1)] (.bool r) [] := by
  unfold batch_Same_C3 at h
  rcases ite_some h with ⟨c1, h⟩ | ⟨c1, h⟩
  · rcases ite_some h with ⟨c2, h⟩ | ⟨c2, h⟩
    · rcases ite_some h with ⟨c3, h⟩ | ⟨c3, h⟩
      · rcases ite_some h with ⟨c4, h⟩ | ⟨c4, h⟩
        · rcases ite_some h with ⟨c5, h⟩ | ⟨c5, h⟩
          · rcases ite_some h with ⟨c6, h⟩ | ⟨c6, h⟩
            · rcases ite_some h with ⟨c7, h⟩ | ⟨c7, h⟩
              · obtain ⟨qq, hl8, h⟩ := bind_some h
                rcases qq with o8 | o8
                · dsimp only at h
                  simp only [Option.some.injEq] at h
                  subst h
                  exact batch_Same_C3_0 x_0 y_1 c1 c2 c3 c4 c5 c6 c7 o8 hl8
                · dsimp only at h
                  simp only [Option.some.injEq] at h
                  subst h
                  exact batch_Same_C3_1 x_0 y_1 c1 c2 c3 c4 c5 c6 c7 o8 hl8
              · simp only [Option.some.injEq] at h
                subst h
                exact batch_Same_C3_2 x_0 y_1 c1 c2 c3 c4 c5 c6 c7
            · simp only [Option.some.injEq] at h
              subst h
              exact batch_Same_C3_3 x_0 y_1 c1 c2 c3 c4 c5 c6
          · simp only [Option.some.injEq] at h
            subst h
            exact batch_Same_C3_4 x_0 y_1 c1 c2 c3 c4 c5
        · simp only [Option.some.injEq] at h
          subst h
          exact batch_Same_C3_5 x_0 y_1 c1 c2 c3 c4
      · simp only [Option.some.injEq] at h
        subst h
        exact batch_Same_C3_6 x_0 y_1 c1 c2 c3
    · simp only [Option.some.injEq] at h
      subst h
      exact batch_Same_C3_7 x_0 y_1 c1 c2
  · simp only [Option.some.injEq] at h
    subst h
    exact batch_Same_C3_8 x_0 y_1 c1
noncomputable def batch_Same_L2_step (a_0 : Tapi_Result) (b_1 : Tapi_Result) : Nat → Option (Nat ⊕ (Unit ⊕ Unit)) := fun k17 =>
  if (↑k17 : Int) < (↑a_0.Passages.length : Int) then
    (a_0.Passages[k17]?).bind fun x13 =>
    (b_1.Passages[k17]?).bind fun x15 =>
    (batch_Same_C1 x13 x15).bind fun r17 =>
    if r17 = true then
      if InR .i64 ((↑k17 : Int) + 1) then
        some (Sum.inl (k17 + 1))
      else none
    else
      some (Sum.inr (Sum.inl ()))
  else
    some (Sum.inr (Sum.inr (())))
def batch_Same_L2_H (a_0 : Tapi_Result) (b_1 : Tapi_Result) : Nat → St := fun (s : Nat) => S 32 [(1, .lst (fl Tapi_Passage.enc b_1.Passages) b_1.Passages.length), (2, .fn (.func 24) [] []), (15, .lst (fl Tapi_Passage.enc a_0.Passages) a_0.Passages.length), (16, .int .i64 (↑a_0.Passages.length : Int)), (17, .int .i64 (↑s : Int))] []
def batch_Same_L2_h1 (k17 : Nat) (x13 : Tapi_Passage) (x15 : Tapi_Passage) (r17 : Bool) : List CH := ((.br true) :: (.op none .c) :: (.op none (.i k17)) :: (.op none (.v [.str x13.ID, .str x13.Point, .int .i64 x13.Time, .str x13.Tag, .str x13.Plate, .int .i64 x13.Class, .int .i64 x13.Score, .lst (fl Tapi_Source.enc x13.Sources) x13.Sources.length])) :: (cs 5 ((.op none (.i k17)) :: (.op none (.v [.str x15.ID, .str x15.Point, .int .i64 x15.Time, .str x15.Tag, .str x15.Plate, .int .i64 x15.Class, .int .i64 x15.Score, .lst (fl Tapi_Source.enc x15.Sources) x15.Sources.length])) :: (cs 5 [.ret none [.agg (Tapi_Passage.enc x13), .agg (Tapi_Passage.enc x15)] (.bool r17) [], .op none .c]))))
def batch_Same_L2_p2 (a_0 : Tapi_Result) (b_1 : Tapi_Result) (k17 : Nat) (x13 : Tapi_Passage) (x15 : Tapi_Passage) (r17 : Bool) : List Prop := [((decide ((↑k17 : Int) < (↑a_0.Passages.length : Int))) = true), ((↑k17 : Int) = ((k17 : Nat) : Int) ∧ k17 < a_0.Passages.length), ((fl Tapi_Passage.enc a_0.Passages) ≠ []), (sub (fl Tapi_Passage.enc a_0.Passages) (k17 * 8) 8 = [.str x13.ID, .str x13.Point, .int .i64 x13.Time, .str x13.Tag, .str x13.Plate, .int .i64 x13.Class, .int .i64 x13.Score, .lst (fl Tapi_Source.enc x13.Sources) x13.Sources.length]), ((↑k17 : Int) = ((k17 : Nat) : Int) ∧ k17 < b_1.Passages.length), ((fl Tapi_Passage.enc b_1.Passages) ≠ []), (sub (fl Tapi_Passage.enc b_1.Passages) (k17 * 8) 8 = [.str x15.ID, .str x15.Point, .int .i64 x15.Time, .str x15.Tag, .str x15.Plate, .int .i64 x15.Class, .int .i64 x15.Score, .lst (fl Tapi_Source.enc x15.Sources) x15.Sources.length]), ((.agg (Tapi_Passage.enc x13) : AV) = .agg (Tapi_Passage.enc x13)), ((.agg (Tapi_Passage.enc x15) : AV) = .agg (Tapi_Passage.enc x15)), (Ret Tryz.prog GT 24 [.agg (Tapi_Passage.enc x13), .agg (Tapi_Passage.enc x15)] (.bool r17) [])]
theorem batch_Same_L2_p2q (a_0 : Tapi_Result) (b_1 : Tapi_Result) (k17 : Nat) (c12 : (↑k17 : Int) < (↑a_0.Passages.length : Int)) (x13 : Tapi_Passage) (h14 : a_0.Passages[k17]? = some x13) (x15 : Tapi_Passage) (h16 : b_1.Passages[k17]? = some x15) (r17 : Bool) (h18 : batch_Same_C1 x13 x15 = some r17) : allOk (batch_Same_L2_p2 a_0 b_1 k17 x13 x15 r17) := ⟨(decide_eq_true c12), ⟨rfl, get_lt h14⟩, (fl_ne (f := Tapi_Passage.enc) (z := 7) (fun _ => rfl) h14), (fl_sub0 (f := Tapi_Passage.enc) (z := 8) (j := k17) (fun _ => rfl) h14 rfl), ⟨rfl, get_lt h16⟩, (fl_ne (f := Tapi_Passage.enc) (z := 7) (fun _ => rfl) h16), (fl_sub0 (f := Tapi_Passage.enc) (z := 8) (j := k17) (fun _ => rfl) h16 rfl), rfl, rfl, ok1 (batch_Same_C1_ret x13 x15 r17 h18)⟩
theorem batch_Same_L2_0 (a_0 : Tapi_Result) (b_1 : Tapi_Result) (k17 : Nat) (c12 : (↑k17 : Int) < (↑a_0.Passages.length : Int)) (x13 : Tapi_Passage) (h14 : a_0.Passages[k17]? = some x13) (x15 : Tapi_Passage) (h16 : b_1.Passages[k17]? = some x15) (r17 : Bool) (h18 : batch_Same_C1 x13 x15 = some r17) (c19 : r17 = true) (h20 : InR .i64 ((↑k17 : Int) + 1)) : Does Tryz.prog GT 0 (bodyAt Tryz.prog 74 [1, 1, 0, 1, 0, 0]) (batch_Same_L2_H a_0 b_1 k17) .normal (S 32 [(1, .lst (fl Tapi_Passage.enc b_1.Passages) b_1.Passages.length), (2, .fn (.func 24) [] []), (15, .lst (fl Tapi_Passage.enc a_0.Passages) a_0.Passages.length), (16, .int .i64 (↑a_0.Passages.length : Int)), (17, .int .i64 ((↑k17 : Int) + 1))] []) :=
  Does.of_viewM 0 400 ([.op none .a] ++ ((batch_Same_L2_h1 k17 x13 x15 r17) ++ [.br false, .op none .w, .op none .c])) [] (ps := ((batch_Same_L2_p2 a_0 b_1 k17 x13 x15 r17) ++ [((!r17) = false), (IntKind.min .i64 ≤ ((↑k17 : Int) + 1) ∧ ((↑k17 : Int) + 1) ≤ IntKind.max .i64)])) (by kernel_rfl) (by kernel_rfl) (allOk_append.2 ⟨(batch_Same_L2_p2q a_0 b_1 k17 c12 x13 h14 x15 h16 r17 h18), ⟨(not_f c19), ok1 h20⟩⟩)
theorem batch_Same_L2_1 (a_0 : Tapi_Result) (b_1 : Tapi_Result) (k17 : Nat) (c12 : (↑k17 : Int) < (↑a_0.Passages.length : Int)) (x13 : Tapi_Passage) (h14 : a_0.Passages[k17]? = some x13) (x15 : Tapi_Passage) (h16 : b_1.Passages[k17]? = some x15) (r17 : Bool) (h18 : batch_Same_C1 x13 x15 = some r17) (c19 : ¬ (r17 = true)) : Does Tryz.prog GT 0 (bodyAt Tryz.prog 74 [1, 1, 0, 1, 0, 0]) (batch_Same_L2_H a_0 b_1 k17) .ret (S 32 [(6, .bool false)] []) :=
  Does.of_viewM 0 400 ([.op none .a] ++ ((batch_Same_L2_h1 k17 x13 x15 r17) ++ [.br true, .op none .c])) [] (ps := ((batch_Same_L2_p2 a_0 b_1 k17 x13 x15 r17) ++ [((!r17) = true)])) (by kernel_rfl) (by kernel_rfl) (allOk_append.2 ⟨(batch_Same_L2_p2q a_0 b_1 k17 c12 x13 h14 x15 h16 r17 h18), (ok1 (not_t (eq_false_of_ne_true c19)))⟩)
theorem batch_Same_L2_2 (a_0 : Tapi_Result) (b_1 : Tapi_Result) (k17 : Nat) (c12 : ¬ ((↑k17 : Int) < (↑a_0.Passages.length : Int))) : Does Tryz.prog GT 0 (bodyAt Tryz.prog 74 [1, 1, 0, 1, 0, 0]) (batch_Same_L2_H a_0 b_1 k17) (.exit 0) (S 32 [] []) :=
  Does.of_viewM 0 400 ([.op none .a] ++ [.br false]) [] (ps := [((decide ((↑k17 : Int) < (↑a_0.Passages.length : Int))) = false)]) (by kernel_rfl) (by kernel_rfl) (ok1 (decide_eq_false c12))
def batch_Same_L2_X (a_0 : Tapi_Result) (b_1 : Tapi_Result) : (Unit ⊕ Unit) → AEx := fun q => match q with | Sum.inl o => .ret | Sum.inr (o) => (.exit 0)
def batch_Same_L2_E (a_0 : Tapi_Result) (b_1 : Tapi_Result) : (Unit ⊕ Unit) → St := fun q => match q with | Sum.inl o => S 32 [(6, .bool false)] [] | Sum.inr (o) => S 32 [] []
theorem batch_Same_L2_does (a_0 : Tapi_Result) (b_1 : Tapi_Result) {s : Nat} {r : Unit ⊕ Unit} (h : lp (batch_Same_L2_step a_0 b_1) s = some r) : Does Tryz.prog GT 0 (.loop (bodyAt Tryz.prog 74 [1, 1, 0, 1, 0, 0])) (batch_Same_L2_H a_0 b_1 s) (batch_Same_L2_X a_0 b_1 r) (batch_Same_L2_E a_0 b_1 r) := by
  refine Does.lp (H := batch_Same_L2_H a_0 b_1) (X := batch_Same_L2_X a_0 b_1) (E := batch_Same_L2_E a_0 b_1) (fun s s2 h => ?_) (fun s r h => ?_) h
  · revert h; revert s; intro k17 h
    unfold batch_Same_L2_step at h
    try dsimp only at h
    rcases ite_some h with ⟨c12, h⟩ | ⟨c12, h⟩
    · obtain ⟨x13, h14, h⟩ := bind_some h
      obtain ⟨x15, h16, h⟩ := bind_some h
      obtain ⟨r17, h18, h⟩ := bind_some h
      rcases ite_some h with ⟨c19, h⟩ | ⟨c19, h⟩
      · obtain ⟨h20, h⟩ := guard_some h
        simp only [Option.some.injEq, Sum.inl.injEq] at h
        subst h
        have hq := batch_Same_L2_0 a_0 b_1 k17 c12 x13 h14 x15 h16 r17 h18 c19 h20
        first | exact hq | exact Eq.mp (by simp only [batch_Same_L2_H, List.length_set] <;> rfl) hq
      · simp at h
    · simp at h
  · revert h; revert s; intro k17 h
    unfold batch_Same_L2_step at h
    try dsimp only at h
    rcases ite_some h with ⟨c12, h⟩ | ⟨c12, h⟩
    · obtain ⟨x13, h14, h⟩ := bind_some h
      obtain ⟨x15, h16, h⟩ := bind_some h
      obtain ⟨r17, h18, h⟩ := bind_some h
      rcases ite_some h with ⟨c19, h⟩ | ⟨c19, h⟩
      · obtain ⟨h20, h⟩ := guard_some h
        simp at h
      · simp only [Option.some.injEq, Sum.inr.injEq] at h
        subst h
        exact ⟨batch_Same_L2_1 a_0 b_1 k17 c12 x13 h14 x15 h16 r17 h18 c19, by intro q; cases q⟩
    · simp only [Option.some.injEq, Sum.inr.injEq] at h
      subst h
      exact ⟨batch_Same_L2_2 a_0 b_1 k17 c12, by intro q; cases q⟩
noncomputable def batch_Same_L22_step (a_0 : Tapi_Result) (b_1 : Tapi_Result) : Nat → Option (Nat ⊕ (Unit ⊕ Unit)) := fun k13 =>
  if (↑k13 : Int) < (↑a_0.Rejects.length : Int) then
    (a_0.Rejects[k13]?).bind fun x31 =>
    (b_1.Rejects[k13]?).bind fun x33 =>
    if (((x31.D.Device == x33.D.Device) && ((x31.D.Seq == x33.D.Seq) && ((x31.D.Time == x33.D.Time) && ((x31.D.Tag == x33.D.Tag) && ((x31.D.Plate == x33.D.Plate) && ((x31.D.Axles == x33.D.Axles) && ((x31.D.Score == x33.D.Score) && true))))))) && ((x31.Why == x33.Why) && true)) = true then
      if InR .i64 ((↑k13 : Int) + 1) then
        some (Sum.inl (k13 + 1))
      else none
    else
      some (Sum.inr (Sum.inl ()))
  else
    some (Sum.inr (Sum.inr (())))
def batch_Same_L22_H (a_0 : Tapi_Result) (b_1 : Tapi_Result) : Nat → St := fun (s : Nat) => S 26 [(0, .lst (fl Tapi_Reject.enc a_0.Rejects) a_0.Rejects.length), (1, .lst (fl Tapi_Reject.enc b_1.Rejects) b_1.Rejects.length), (12, .int .i64 (↑a_0.Rejects.length : Int)), (13, .int .i64 (↑s : Int))] []
def batch_Same_L22_h1 (k13 : Nat) (x31 : Tapi_Reject) (x33 : Tapi_Reject) : List CH := ((.br true) :: (cs 4 ((.op none (.i k13)) :: (.op none (.v [.str x31.D.Device, .int .i64 x31.D.Seq, .int .i64 x31.D.Time, .str x31.D.Tag, .str x31.D.Plate, .int .i64 x31.D.Axles, .int .i64 x31.D.Score, .int .i64 x31.Why])) :: (cs 2 [.op none (.i k13), .op none (.v [.str x33.D.Device, .int .i64 x33.D.Seq, .int .i64 x33.D.Time, .str x33.D.Tag, .str x33.D.Plate, .int .i64 x33.D.Axles, .int .i64 x33.D.Score, .int .i64 x33.Why]), .op none .c]))))
def batch_Same_L22_p2 (a_0 : Tapi_Result) (b_1 : Tapi_Result) (k13 : Nat) (x31 : Tapi_Reject) (x33 : Tapi_Reject) : List Prop := [((decide ((↑k13 : Int) < (↑a_0.Rejects.length : Int))) = true), ((↑k13 : Int) = ((k13 : Nat) : Int) ∧ k13 < a_0.Rejects.length), ((fl Tapi_Reject.enc a_0.Rejects) ≠ []), (sub (fl Tapi_Reject.enc a_0.Rejects) (k13 * 8) 8 = [.str x31.D.Device, .int .i64 x31.D.Seq, .int .i64 x31.D.Time, .str x31.D.Tag, .str x31.D.Plate, .int .i64 x31.D.Axles, .int .i64 x31.D.Score, .int .i64 x31.Why]), ((↑k13 : Int) = ((k13 : Nat) : Int) ∧ k13 < b_1.Rejects.length), ((fl Tapi_Reject.enc b_1.Rejects) ≠ []), (sub (fl Tapi_Reject.enc b_1.Rejects) (k13 * 8) 8 = [.str x33.D.Device, .int .i64 x33.D.Seq, .int .i64 x33.D.Time, .str x33.D.Tag, .str x33.D.Plate, .int .i64 x33.D.Axles, .int .i64 x33.D.Score, .int .i64 x33.Why])]
theorem batch_Same_L22_p2q (a_0 : Tapi_Result) (b_1 : Tapi_Result) (k13 : Nat) (c30 : (↑k13 : Int) < (↑a_0.Rejects.length : Int)) (x31 : Tapi_Reject) (h32 : a_0.Rejects[k13]? = some x31) (x33 : Tapi_Reject) (h34 : b_1.Rejects[k13]? = some x33) : allOk (batch_Same_L22_p2 a_0 b_1 k13 x31 x33) := ⟨(decide_eq_true c30), ⟨rfl, get_lt h32⟩, (fl_ne (f := Tapi_Reject.enc) (z := 7) (fun _ => rfl) h32), (fl_sub0 (f := Tapi_Reject.enc) (z := 8) (j := k13) (fun _ => rfl) h32 rfl), ⟨rfl, get_lt h34⟩, (fl_ne (f := Tapi_Reject.enc) (z := 7) (fun _ => rfl) h34), ok1 (fl_sub0 (f := Tapi_Reject.enc) (z := 8) (j := k13) (fun _ => rfl) h34 rfl)⟩
theorem batch_Same_L22_0 (a_0 : Tapi_Result) (b_1 : Tapi_Result) (k13 : Nat) (c30 : (↑k13 : Int) < (↑a_0.Rejects.length : Int)) (x31 : Tapi_Reject) (h32 : a_0.Rejects[k13]? = some x31) (x33 : Tapi_Reject) (h34 : b_1.Rejects[k13]? = some x33) (c35 : (((x31.D.Device == x33.D.Device) && ((x31.D.Seq == x33.D.Seq) && ((x31.D.Time == x33.D.Time) && ((x31.D.Tag == x33.D.Tag) && ((x31.D.Plate == x33.D.Plate) && ((x31.D.Axles == x33.D.Axles) && ((x31.D.Score == x33.D.Score) && true))))))) && ((x31.Why == x33.Why) && true)) = true) (h36 : InR .i64 ((↑k13 : Int) + 1)) : Does Tryz.prog GT 0 (bodyAt Tryz.prog 31 [1, 1, 0, 1, 0, 0]) (batch_Same_L22_H a_0 b_1 k13) .normal (S 26 [(0, .lst (fl Tapi_Reject.enc a_0.Rejects) a_0.Rejects.length), (1, .lst (fl Tapi_Reject.enc b_1.Rejects) b_1.Rejects.length), (12, .int .i64 (↑a_0.Rejects.length : Int)), (13, .int .i64 ((↑k13 : Int) + 1))] []) :=
  Does.of_viewM 0 400 ([.op none .a] ++ ((batch_Same_L22_h1 k13 x31 x33) ++ [.br false, .op none .w, .op none .c])) [] (ps := ((batch_Same_L22_p2 a_0 b_1 k13 x31 x33) ++ [((!(((x31.D.Device == x33.D.Device) && ((x31.D.Seq == x33.D.Seq) && ((x31.D.Time == x33.D.Time) && ((x31.D.Tag == x33.D.Tag) && ((x31.D.Plate == x33.D.Plate) && ((x31.D.Axles == x33.D.Axles) && ((x31.D.Score == x33.D.Score) && true))))))) && ((x31.Why == x33.Why) && true))) = false), (IntKind.min .i64 ≤ ((↑k13 : Int) + 1) ∧ ((↑k13 : Int) + 1) ≤ IntKind.max .i64)])) (by kernel_rfl) (by kernel_rfl) (allOk_append.2 ⟨(batch_Same_L22_p2q a_0 b_1 k13 c30 x31 h32 x33 h34), ⟨(not_f c35), ok1 h36⟩⟩)
theorem batch_Same_L22_1 (a_0 : Tapi_Result) (b_1 : Tapi_Result) (k13 : Nat) (c30 : (↑k13 : Int) < (↑a_0.Rejects.length : Int)) (x31 : Tapi_Reject) (h32 : a_0.Rejects[k13]? = some x31) (x33 : Tapi_Reject) (h34 : b_1.Rejects[k13]? = some x33) (c35 : ¬ ((((x31.D.Device == x33.D.Device) && ((x31.D.Seq == x33.D.Seq) && ((x31.D.Time == x33.D.Time) && ((x31.D.Tag == x33.D.Tag) && ((x31.D.Plate == x33.D.Plate) && ((x31.D.Axles == x33.D.Axles) && ((x31.D.Score == x33.D.Score) && true))))))) && ((x31.Why == x33.Why) && true)) = true)) : Does Tryz.prog GT 0 (bodyAt Tryz.prog 31 [1, 1, 0, 1, 0, 0]) (batch_Same_L22_H a_0 b_1 k13) .ret (S 26 [(4, .bool false)] []) :=
  Does.of_viewM 0 400 ([.op none .a] ++ ((batch_Same_L22_h1 k13 x31 x33) ++ [.br true, .op none .c])) [] (ps := ((batch_Same_L22_p2 a_0 b_1 k13 x31 x33) ++ [((!(((x31.D.Device == x33.D.Device) && ((x31.D.Seq == x33.D.Seq) && ((x31.D.Time == x33.D.Time) && ((x31.D.Tag == x33.D.Tag) && ((x31.D.Plate == x33.D.Plate) && ((x31.D.Axles == x33.D.Axles) && ((x31.D.Score == x33.D.Score) && true))))))) && ((x31.Why == x33.Why) && true))) = true)])) (by kernel_rfl) (by kernel_rfl) (allOk_append.2 ⟨(batch_Same_L22_p2q a_0 b_1 k13 c30 x31 h32 x33 h34), (ok1 (not_t (eq_false_of_ne_true c35)))⟩)
theorem batch_Same_L22_2 (a_0 : Tapi_Result) (b_1 : Tapi_Result) (k13 : Nat) (c30 : ¬ ((↑k13 : Int) < (↑a_0.Rejects.length : Int))) : Does Tryz.prog GT 0 (bodyAt Tryz.prog 31 [1, 1, 0, 1, 0, 0]) (batch_Same_L22_H a_0 b_1 k13) (.exit 0) (S 26 [] []) :=
  Does.of_viewM 0 400 ([.op none .a] ++ [.br false]) [] (ps := [((decide ((↑k13 : Int) < (↑a_0.Rejects.length : Int))) = false)]) (by kernel_rfl) (by kernel_rfl) (ok1 (decide_eq_false c30))
def batch_Same_L22_X (a_0 : Tapi_Result) (b_1 : Tapi_Result) : (Unit ⊕ Unit) → AEx := fun q => match q with | Sum.inl o => .ret | Sum.inr (o) => (.exit 0)
def batch_Same_L22_E (a_0 : Tapi_Result) (b_1 : Tapi_Result) : (Unit ⊕ Unit) → St := fun q => match q with | Sum.inl o => S 26 [(4, .bool false)] [] | Sum.inr (o) => S 26 [] []
theorem batch_Same_L22_does (a_0 : Tapi_Result) (b_1 : Tapi_Result) {s : Nat} {r : Unit ⊕ Unit} (h : lp (batch_Same_L22_step a_0 b_1) s = some r) : Does Tryz.prog GT 0 (.loop (bodyAt Tryz.prog 31 [1, 1, 0, 1, 0, 0])) (batch_Same_L22_H a_0 b_1 s) (batch_Same_L22_X a_0 b_1 r) (batch_Same_L22_E a_0 b_1 r) := by
  refine Does.lp (H := batch_Same_L22_H a_0 b_1) (X := batch_Same_L22_X a_0 b_1) (E := batch_Same_L22_E a_0 b_1) (fun s s2 h => ?_) (fun s r h => ?_) h
  · revert h; revert s; intro k13 h
    unfold batch_Same_L22_step at h
    try dsimp only at h
    rcases ite_some h with ⟨c30, h⟩ | ⟨c30, h⟩
    · obtain ⟨x31, h32, h⟩ := bind_some h
      obtain ⟨x33, h34, h⟩ := bind_some h
      rcases ite_some h with ⟨c35, h⟩ | ⟨c35, h⟩
      · obtain ⟨h36, h⟩ := guard_some h
        simp only [Option.some.injEq, Sum.inl.injEq] at h
        subst h
        have hq := batch_Same_L22_0 a_0 b_1 k13 c30 x31 h32 x33 h34 c35 h36
        first | exact hq | exact Eq.mp (by simp only [batch_Same_L22_H, List.length_set] <;> rfl) hq
      · simp at h
    · simp at h
  · revert h; revert s; intro k13 h
    unfold batch_Same_L22_step at h
    try dsimp only at h
    rcases ite_some h with ⟨c30, h⟩ | ⟨c30, h⟩
    · obtain ⟨x31, h32, h⟩ := bind_some h
      obtain ⟨x33, h34, h⟩ := bind_some h
      rcases ite_some h with ⟨c35, h⟩ | ⟨c35, h⟩
      · obtain ⟨h36, h⟩ := guard_some h
        simp at h
      · simp only [Option.some.injEq, Sum.inr.injEq] at h
        subst h
        exact ⟨batch_Same_L22_1 a_0 b_1 k13 c30 x31 h32 x33 h34 c35, by intro q; cases q⟩
    · simp only [Option.some.injEq, Sum.inr.injEq] at h
      subst h
      exact ⟨batch_Same_L22_2 a_0 b_1 k13 c30, by intro q; cases q⟩
noncomputable def batch_Same_L38_step (a_0 : Tapi_Result) (b_1 : Tapi_Result) : Nat → Option (Nat ⊕ (Unit ⊕ Unit)) := fun k17 =>
  if (↑k17 : Int) < (↑a_0.Trips.length : Int) then
    (a_0.Trips[k17]?).bind fun x49 =>
    (b_1.Trips[k17]?).bind fun x51 =>
    (batch_Same_C2 x49 x51).bind fun r53 =>
    if r53 = true then
      if InR .i64 ((↑k17 : Int) + 1) then
        some (Sum.inl (k17 + 1))
      else none
    else
      some (Sum.inr (Sum.inl ()))
  else
    some (Sum.inr (Sum.inr (())))
def batch_Same_L38_H (a_0 : Tapi_Result) (b_1 : Tapi_Result) : Nat → St := fun (s : Nat) => S 32 [(1, .lst (fl Tapi_Trip.enc b_1.Trips) b_1.Trips.length), (2, .fn (.func 26) [] []), (15, .lst (fl Tapi_Trip.enc a_0.Trips) a_0.Trips.length), (16, .int .i64 (↑a_0.Trips.length : Int)), (17, .int .i64 (↑s : Int))] []
def batch_Same_L38_h1 (k17 : Nat) (x49 : Tapi_Trip) (x51 : Tapi_Trip) (r53 : Bool) : List CH := ((.br true) :: (.op none .c) :: (.op none (.i k17)) :: (.op none (.v [.str x49.ID, .str x49.Vehicle, .str x49.System, .int .i64 x49.Class, .lst (fl Tapi_Stop.enc x49.Stops) x49.Stops.length])) :: (cs 5 ((.op none (.i k17)) :: (.op none (.v [.str x51.ID, .str x51.Vehicle, .str x51.System, .int .i64 x51.Class, .lst (fl Tapi_Stop.enc x51.Stops) x51.Stops.length])) :: (cs 5 [.ret none [.agg (Tapi_Trip.enc x49), .agg (Tapi_Trip.enc x51)] (.bool r53) [], .op none .c]))))
def batch_Same_L38_p2 (a_0 : Tapi_Result) (b_1 : Tapi_Result) (k17 : Nat) (x49 : Tapi_Trip) (x51 : Tapi_Trip) (r53 : Bool) : List Prop := [((decide ((↑k17 : Int) < (↑a_0.Trips.length : Int))) = true), ((↑k17 : Int) = ((k17 : Nat) : Int) ∧ k17 < a_0.Trips.length), ((fl Tapi_Trip.enc a_0.Trips) ≠ []), (sub (fl Tapi_Trip.enc a_0.Trips) (k17 * 5) 5 = [.str x49.ID, .str x49.Vehicle, .str x49.System, .int .i64 x49.Class, .lst (fl Tapi_Stop.enc x49.Stops) x49.Stops.length]), ((↑k17 : Int) = ((k17 : Nat) : Int) ∧ k17 < b_1.Trips.length), ((fl Tapi_Trip.enc b_1.Trips) ≠ []), (sub (fl Tapi_Trip.enc b_1.Trips) (k17 * 5) 5 = [.str x51.ID, .str x51.Vehicle, .str x51.System, .int .i64 x51.Class, .lst (fl Tapi_Stop.enc x51.Stops) x51.Stops.length]), ((.agg (Tapi_Trip.enc x49) : AV) = .agg (Tapi_Trip.enc x49)), ((.agg (Tapi_Trip.enc x51) : AV) = .agg (Tapi_Trip.enc x51)), (Ret Tryz.prog GT 26 [.agg (Tapi_Trip.enc x49), .agg (Tapi_Trip.enc x51)] (.bool r53) [])]
theorem batch_Same_L38_p2q (a_0 : Tapi_Result) (b_1 : Tapi_Result) (k17 : Nat) (c48 : (↑k17 : Int) < (↑a_0.Trips.length : Int)) (x49 : Tapi_Trip) (h50 : a_0.Trips[k17]? = some x49) (x51 : Tapi_Trip) (h52 : b_1.Trips[k17]? = some x51) (r53 : Bool) (h54 : batch_Same_C2 x49 x51 = some r53) : allOk (batch_Same_L38_p2 a_0 b_1 k17 x49 x51 r53) := ⟨(decide_eq_true c48), ⟨rfl, get_lt h50⟩, (fl_ne (f := Tapi_Trip.enc) (z := 4) (fun _ => rfl) h50), (fl_sub0 (f := Tapi_Trip.enc) (z := 5) (j := k17) (fun _ => rfl) h50 rfl), ⟨rfl, get_lt h52⟩, (fl_ne (f := Tapi_Trip.enc) (z := 4) (fun _ => rfl) h52), (fl_sub0 (f := Tapi_Trip.enc) (z := 5) (j := k17) (fun _ => rfl) h52 rfl), rfl, rfl, ok1 (batch_Same_C2_ret x49 x51 r53 h54)⟩
theorem batch_Same_L38_0 (a_0 : Tapi_Result) (b_1 : Tapi_Result) (k17 : Nat) (c48 : (↑k17 : Int) < (↑a_0.Trips.length : Int)) (x49 : Tapi_Trip) (h50 : a_0.Trips[k17]? = some x49) (x51 : Tapi_Trip) (h52 : b_1.Trips[k17]? = some x51) (r53 : Bool) (h54 : batch_Same_C2 x49 x51 = some r53) (c55 : r53 = true) (h56 : InR .i64 ((↑k17 : Int) + 1)) : Does Tryz.prog GT 0 (bodyAt Tryz.prog 75 [1, 1, 0, 1, 0, 0]) (batch_Same_L38_H a_0 b_1 k17) .normal (S 32 [(1, .lst (fl Tapi_Trip.enc b_1.Trips) b_1.Trips.length), (2, .fn (.func 26) [] []), (15, .lst (fl Tapi_Trip.enc a_0.Trips) a_0.Trips.length), (16, .int .i64 (↑a_0.Trips.length : Int)), (17, .int .i64 ((↑k17 : Int) + 1))] []) :=
  Does.of_viewM 0 400 ([.op none .a] ++ ((batch_Same_L38_h1 k17 x49 x51 r53) ++ [.br false, .op none .w, .op none .c])) [] (ps := ((batch_Same_L38_p2 a_0 b_1 k17 x49 x51 r53) ++ [((!r53) = false), (IntKind.min .i64 ≤ ((↑k17 : Int) + 1) ∧ ((↑k17 : Int) + 1) ≤ IntKind.max .i64)])) (by kernel_rfl) (by kernel_rfl) (allOk_append.2 ⟨(batch_Same_L38_p2q a_0 b_1 k17 c48 x49 h50 x51 h52 r53 h54), ⟨(not_f c55), ok1 h56⟩⟩)
theorem batch_Same_L38_1 (a_0 : Tapi_Result) (b_1 : Tapi_Result) (k17 : Nat) (c48 : (↑k17 : Int) < (↑a_0.Trips.length : Int)) (x49 : Tapi_Trip) (h50 : a_0.Trips[k17]? = some x49) (x51 : Tapi_Trip) (h52 : b_1.Trips[k17]? = some x51) (r53 : Bool) (h54 : batch_Same_C2 x49 x51 = some r53) (c55 : ¬ (r53 = true)) : Does Tryz.prog GT 0 (bodyAt Tryz.prog 75 [1, 1, 0, 1, 0, 0]) (batch_Same_L38_H a_0 b_1 k17) .ret (S 32 [(6, .bool false)] []) :=
  Does.of_viewM 0 400 ([.op none .a] ++ ((batch_Same_L38_h1 k17 x49 x51 r53) ++ [.br true, .op none .c])) [] (ps := ((batch_Same_L38_p2 a_0 b_1 k17 x49 x51 r53) ++ [((!r53) = true)])) (by kernel_rfl) (by kernel_rfl) (allOk_append.2 ⟨(batch_Same_L38_p2q a_0 b_1 k17 c48 x49 h50 x51 h52 r53 h54), (ok1 (not_t (eq_false_of_ne_true c55)))⟩)
theorem batch_Same_L38_2 (a_0 : Tapi_Result) (b_1 : Tapi_Result) (k17 : Nat) (c48 : ¬ ((↑k17 : Int) < (↑a_0.Trips.length : Int))) : Does Tryz.prog GT 0 (bodyAt Tryz.prog 75 [1, 1, 0, 1, 0, 0]) (batch_Same_L38_H a_0 b_1 k17) (.exit 0) (S 32 [] []) :=
  Does.of_viewM 0 400 ([.op none .a] ++ [.br false]) [] (ps := [((decide ((↑k17 : Int) < (↑a_0.Trips.length : Int))) = false)]) (by kernel_rfl) (by kernel_rfl) (ok1 (decide_eq_false c48))
def batch_Same_L38_X (a_0 : Tapi_Result) (b_1 : Tapi_Result) : (Unit ⊕ Unit) → AEx := fun q => match q with | Sum.inl o => .ret | Sum.inr (o) => (.exit 0)
def batch_Same_L38_E (a_0 : Tapi_Result) (b_1 : Tapi_Result) : (Unit ⊕ Unit) → St := fun q => match q with | Sum.inl o => S 32 [(6, .bool false)] [] | Sum.inr (o) => S 32 [] []
theorem batch_Same_L38_does (a_0 : Tapi_Result) (b_1 : Tapi_Result) {s : Nat} {r : Unit ⊕ Unit} (h : lp (batch_Same_L38_step a_0 b_1) s = some r) : Does Tryz.prog GT 0 (.loop (bodyAt Tryz.prog 75 [1, 1, 0, 1, 0, 0])) (batch_Same_L38_H a_0 b_1 s) (batch_Same_L38_X a_0 b_1 r) (batch_Same_L38_E a_0 b_1 r) := by
  refine Does.lp (H := batch_Same_L38_H a_0 b_1) (X := batch_Same_L38_X a_0 b_1) (E := batch_Same_L38_E a_0 b_1) (fun s s2 h => ?_) (fun s r h => ?_) h
  · revert h; revert s; intro k17 h
    unfold batch_Same_L38_step at h
    try dsimp only at h
    rcases ite_some h with ⟨c48, h⟩ | ⟨c48, h⟩
    · obtain ⟨x49, h50, h⟩ := bind_some h
      obtain ⟨x51, h52, h⟩ := bind_some h
      obtain ⟨r53, h54, h⟩ := bind_some h
      rcases ite_some h with ⟨c55, h⟩ | ⟨c55, h⟩
      · obtain ⟨h56, h⟩ := guard_some h
        simp only [Option.some.injEq, Sum.inl.injEq] at h
        subst h
        have hq := batch_Same_L38_0 a_0 b_1 k17 c48 x49 h50 x51 h52 r53 h54 c55 h56
        first | exact hq | exact Eq.mp (by simp only [batch_Same_L38_H, List.length_set] <;> rfl) hq
      · simp at h
    · simp at h
  · revert h; revert s; intro k17 h
    unfold batch_Same_L38_step at h
    try dsimp only at h
    rcases ite_some h with ⟨c48, h⟩ | ⟨c48, h⟩
    · obtain ⟨x49, h50, h⟩ := bind_some h
      obtain ⟨x51, h52, h⟩ := bind_some h
      obtain ⟨r53, h54, h⟩ := bind_some h
      rcases ite_some h with ⟨c55, h⟩ | ⟨c55, h⟩
      · obtain ⟨h56, h⟩ := guard_some h
        simp at h
      · simp only [Option.some.injEq, Sum.inr.injEq] at h
        subst h
        exact ⟨batch_Same_L38_1 a_0 b_1 k17 c48 x49 h50 x51 h52 r53 h54 c55, by intro q; cases q⟩
    · simp only [Option.some.injEq, Sum.inr.injEq] at h
      subst h
      exact ⟨batch_Same_L38_2 a_0 b_1 k17 c48, by intro q; cases q⟩
noncomputable def batch_Same_L58_step (a_0 : Tapi_Result) (b_1 : Tapi_Result) : Nat → Option (Nat ⊕ (Unit ⊕ Unit)) := fun k13 =>
  if (↑k13 : Int) < (↑a_0.Stays.length : Int) then
    (a_0.Stays[k13]?).bind fun x67 =>
    (b_1.Stays[k13]?).bind fun x69 =>
    if ((x67.ID == x69.ID) && ((x67.Zone == x69.Zone) && ((x67.Plate == x69.Plate) && (((x67.Time.From == x69.Time.From) && ((x67.Time.To == x69.Time.To) && true)) && true)))) = true then
      if InR .i64 ((↑k13 : Int) + 1) then
        some (Sum.inl (k13 + 1))
      else none
    else
      some (Sum.inr (Sum.inl ()))
  else
    some (Sum.inr (Sum.inr (())))
def batch_Same_L58_H (a_0 : Tapi_Result) (b_1 : Tapi_Result) : Nat → St := fun (s : Nat) => S 26 [(0, .lst (fl Tapi_Stay.enc a_0.Stays) a_0.Stays.length), (1, .lst (fl Tapi_Stay.enc b_1.Stays) b_1.Stays.length), (12, .int .i64 (↑a_0.Stays.length : Int)), (13, .int .i64 (↑s : Int))] []
def batch_Same_L58_h1 (k13 : Nat) (x67 : Tapi_Stay) (x69 : Tapi_Stay) : List CH := ((.br true) :: (cs 4 ((.op none (.i k13)) :: (.op none (.v [.str x67.ID, .str x67.Zone, .str x67.Plate, .int .i64 x67.Time.From, .int .i64 x67.Time.To])) :: (cs 2 [.op none (.i k13), .op none (.v [.str x69.ID, .str x69.Zone, .str x69.Plate, .int .i64 x69.Time.From, .int .i64 x69.Time.To]), .op none .c]))))
def batch_Same_L58_p2 (a_0 : Tapi_Result) (b_1 : Tapi_Result) (k13 : Nat) (x67 : Tapi_Stay) (x69 : Tapi_Stay) : List Prop := [((decide ((↑k13 : Int) < (↑a_0.Stays.length : Int))) = true), ((↑k13 : Int) = ((k13 : Nat) : Int) ∧ k13 < a_0.Stays.length), ((fl Tapi_Stay.enc a_0.Stays) ≠ []), (sub (fl Tapi_Stay.enc a_0.Stays) (k13 * 5) 5 = [.str x67.ID, .str x67.Zone, .str x67.Plate, .int .i64 x67.Time.From, .int .i64 x67.Time.To]), ((↑k13 : Int) = ((k13 : Nat) : Int) ∧ k13 < b_1.Stays.length), ((fl Tapi_Stay.enc b_1.Stays) ≠ []), (sub (fl Tapi_Stay.enc b_1.Stays) (k13 * 5) 5 = [.str x69.ID, .str x69.Zone, .str x69.Plate, .int .i64 x69.Time.From, .int .i64 x69.Time.To])]
theorem batch_Same_L58_p2q (a_0 : Tapi_Result) (b_1 : Tapi_Result) (k13 : Nat) (c66 : (↑k13 : Int) < (↑a_0.Stays.length : Int)) (x67 : Tapi_Stay) (h68 : a_0.Stays[k13]? = some x67) (x69 : Tapi_Stay) (h70 : b_1.Stays[k13]? = some x69) : allOk (batch_Same_L58_p2 a_0 b_1 k13 x67 x69) := ⟨(decide_eq_true c66), ⟨rfl, get_lt h68⟩, (fl_ne (f := Tapi_Stay.enc) (z := 4) (fun _ => rfl) h68), (fl_sub0 (f := Tapi_Stay.enc) (z := 5) (j := k13) (fun _ => rfl) h68 rfl), ⟨rfl, get_lt h70⟩, (fl_ne (f := Tapi_Stay.enc) (z := 4) (fun _ => rfl) h70), ok1 (fl_sub0 (f := Tapi_Stay.enc) (z := 5) (j := k13) (fun _ => rfl) h70 rfl)⟩
theorem batch_Same_L58_0 (a_0 : Tapi_Result) (b_1 : Tapi_Result) (k13 : Nat) (c66 : (↑k13 : Int) < (↑a_0.Stays.length : Int)) (x67 : Tapi_Stay) (h68 : a_0.Stays[k13]? = some x67) (x69 : Tapi_Stay) (h70 : b_1.Stays[k13]? = some x69) (c71 : ((x67.ID == x69.ID) && ((x67.Zone == x69.Zone) && ((x67.Plate == x69.Plate) && (((x67.Time.From == x69.Time.From) && ((x67.Time.To == x69.Time.To) && true)) && true)))) = true) (h72 : InR .i64 ((↑k13 : Int) + 1)) : Does Tryz.prog GT 0 (bodyAt Tryz.prog 33 [1, 1, 0, 1, 0, 0]) (batch_Same_L58_H a_0 b_1 k13) .normal (S 26 [(0, .lst (fl Tapi_Stay.enc a_0.Stays) a_0.Stays.length), (1, .lst (fl Tapi_Stay.enc b_1.Stays) b_1.Stays.length), (12, .int .i64 (↑a_0.Stays.length : Int)), (13, .int .i64 ((↑k13 : Int) + 1))] []) :=
  Does.of_viewM 0 400 ([.op none .a] ++ ((batch_Same_L58_h1 k13 x67 x69) ++ [.br false, .op none .w, .op none .c])) [] (ps := ((batch_Same_L58_p2 a_0 b_1 k13 x67 x69) ++ [((!((x67.ID == x69.ID) && ((x67.Zone == x69.Zone) && ((x67.Plate == x69.Plate) && (((x67.Time.From == x69.Time.From) && ((x67.Time.To == x69.Time.To) && true)) && true))))) = false), (IntKind.min .i64 ≤ ((↑k13 : Int) + 1) ∧ ((↑k13 : Int) + 1) ≤ IntKind.max .i64)])) (by kernel_rfl) (by kernel_rfl) (allOk_append.2 ⟨(batch_Same_L58_p2q a_0 b_1 k13 c66 x67 h68 x69 h70), ⟨(not_f c71), ok1 h72⟩⟩)
theorem batch_Same_L58_1 (a_0 : Tapi_Result) (b_1 : Tapi_Result) (k13 : Nat) (c66 : (↑k13 : Int) < (↑a_0.Stays.length : Int)) (x67 : Tapi_Stay) (h68 : a_0.Stays[k13]? = some x67) (x69 : Tapi_Stay) (h70 : b_1.Stays[k13]? = some x69) (c71 : ¬ (((x67.ID == x69.ID) && ((x67.Zone == x69.Zone) && ((x67.Plate == x69.Plate) && (((x67.Time.From == x69.Time.From) && ((x67.Time.To == x69.Time.To) && true)) && true)))) = true)) : Does Tryz.prog GT 0 (bodyAt Tryz.prog 33 [1, 1, 0, 1, 0, 0]) (batch_Same_L58_H a_0 b_1 k13) .ret (S 26 [(4, .bool false)] []) :=
  Does.of_viewM 0 400 ([.op none .a] ++ ((batch_Same_L58_h1 k13 x67 x69) ++ [.br true, .op none .c])) [] (ps := ((batch_Same_L58_p2 a_0 b_1 k13 x67 x69) ++ [((!((x67.ID == x69.ID) && ((x67.Zone == x69.Zone) && ((x67.Plate == x69.Plate) && (((x67.Time.From == x69.Time.From) && ((x67.Time.To == x69.Time.To) && true)) && true))))) = true)])) (by kernel_rfl) (by kernel_rfl) (allOk_append.2 ⟨(batch_Same_L58_p2q a_0 b_1 k13 c66 x67 h68 x69 h70), (ok1 (not_t (eq_false_of_ne_true c71)))⟩)
theorem batch_Same_L58_2 (a_0 : Tapi_Result) (b_1 : Tapi_Result) (k13 : Nat) (c66 : ¬ ((↑k13 : Int) < (↑a_0.Stays.length : Int))) : Does Tryz.prog GT 0 (bodyAt Tryz.prog 33 [1, 1, 0, 1, 0, 0]) (batch_Same_L58_H a_0 b_1 k13) (.exit 0) (S 26 [] []) :=
  Does.of_viewM 0 400 ([.op none .a] ++ [.br false]) [] (ps := [((decide ((↑k13 : Int) < (↑a_0.Stays.length : Int))) = false)]) (by kernel_rfl) (by kernel_rfl) (ok1 (decide_eq_false c66))
def batch_Same_L58_X (a_0 : Tapi_Result) (b_1 : Tapi_Result) : (Unit ⊕ Unit) → AEx := fun q => match q with | Sum.inl o => .ret | Sum.inr (o) => (.exit 0)
def batch_Same_L58_E (a_0 : Tapi_Result) (b_1 : Tapi_Result) : (Unit ⊕ Unit) → St := fun q => match q with | Sum.inl o => S 26 [(4, .bool false)] [] | Sum.inr (o) => S 26 [] []
theorem batch_Same_L58_does (a_0 : Tapi_Result) (b_1 : Tapi_Result) {s : Nat} {r : Unit ⊕ Unit} (h : lp (batch_Same_L58_step a_0 b_1) s = some r) : Does Tryz.prog GT 0 (.loop (bodyAt Tryz.prog 33 [1, 1, 0, 1, 0, 0])) (batch_Same_L58_H a_0 b_1 s) (batch_Same_L58_X a_0 b_1 r) (batch_Same_L58_E a_0 b_1 r) := by
  refine Does.lp (H := batch_Same_L58_H a_0 b_1) (X := batch_Same_L58_X a_0 b_1) (E := batch_Same_L58_E a_0 b_1) (fun s s2 h => ?_) (fun s r h => ?_) h
  · revert h; revert s; intro k13 h
    unfold batch_Same_L58_step at h
    try dsimp only at h
    rcases ite_some h with ⟨c66, h⟩ | ⟨c66, h⟩
    · obtain ⟨x67, h68, h⟩ := bind_some h
      obtain ⟨x69, h70, h⟩ := bind_some h
      rcases ite_some h with ⟨c71, h⟩ | ⟨c71, h⟩
      · obtain ⟨h72, h⟩ := guard_some h
        simp only [Option.some.injEq, Sum.inl.injEq] at h
        subst h
        have hq := batch_Same_L58_0 a_0 b_1 k13 c66 x67 h68 x69 h70 c71 h72
        first | exact hq | exact Eq.mp (by simp only [batch_Same_L58_H, List.length_set] <;> rfl) hq
      · simp at h
    · simp at h
  · revert h; revert s; intro k13 h
    unfold batch_Same_L58_step at h
    try dsimp only at h
    rcases ite_some h with ⟨c66, h⟩ | ⟨c66, h⟩
    · obtain ⟨x67, h68, h⟩ := bind_some h
      obtain ⟨x69, h70, h⟩ := bind_some h
      rcases ite_some h with ⟨c71, h⟩ | ⟨c71, h⟩
      · obtain ⟨h72, h⟩ := guard_some h
        simp at h
      · simp only [Option.some.injEq, Sum.inr.injEq] at h
        subst h
        exact ⟨batch_Same_L58_1 a_0 b_1 k13 c66 x67 h68 x69 h70 c71, by intro q; cases q⟩
    · simp only [Option.some.injEq, Sum.inr.injEq] at h
      subst h
      exact ⟨batch_Same_L58_2 a_0 b_1 k13 c66, by intro q; cases q⟩
noncomputable def batch_Same_L74_step (a_0 : Tapi_Result) (b_1 : Tapi_Result) : Nat → Option (Nat ⊕ (Unit ⊕ Unit)) := fun k17 =>
  if (↑k17 : Int) < (↑a_0.Charges.length : Int) then
    (a_0.Charges[k17]?).bind fun x85 =>
    (b_1.Charges[k17]?).bind fun x87 =>
    (batch_Same_C3 x85 x87).bind fun r89 =>
    if r89 = true then
      if InR .i64 ((↑k17 : Int) + 1) then
        some (Sum.inl (k17 + 1))
      else none
    else
      some (Sum.inr (Sum.inl ()))
  else
    some (Sum.inr (Sum.inr (())))
def batch_Same_L74_H (a_0 : Tapi_Result) (b_1 : Tapi_Result) : Nat → St := fun (s : Nat) => S 32 [(1, .lst (fl Tapi_Charge.enc b_1.Charges) b_1.Charges.length), (2, .fn (.func 28) [] []), (15, .lst (fl Tapi_Charge.enc a_0.Charges) a_0.Charges.length), (16, .int .i64 (↑a_0.Charges.length : Int)), (17, .int .i64 (↑s : Int))] []
def batch_Same_L74_h1 (k17 : Nat) (x85 : Tapi_Charge) (x87 : Tapi_Charge) (r89 : Bool) : List CH := ((.br true) :: (.op none .c) :: (.op none (.i k17)) :: (.op none (.v [.str x85.Key, .str x85.Vehicle, .str x85.System, .int .i64 x85.Class, .int .i64 x85.Time, .lst (fl Tapi_Line.enc x85.Lines) x85.Lines.length, .int .i64 x85.Cents])) :: (cs 5 ((.op none (.i k17)) :: (.op none (.v [.str x87.Key, .str x87.Vehicle, .str x87.System, .int .i64 x87.Class, .int .i64 x87.Time, .lst (fl Tapi_Line.enc x87.Lines) x87.Lines.length, .int .i64 x87.Cents])) :: (cs 5 [.ret none [.agg (Tapi_Charge.enc x85), .agg (Tapi_Charge.enc x87)] (.bool r89) [], .op none .c]))))
def batch_Same_L74_p2 (a_0 : Tapi_Result) (b_1 : Tapi_Result) (k17 : Nat) (x85 : Tapi_Charge) (x87 : Tapi_Charge) (r89 : Bool) : List Prop := [((decide ((↑k17 : Int) < (↑a_0.Charges.length : Int))) = true), ((↑k17 : Int) = ((k17 : Nat) : Int) ∧ k17 < a_0.Charges.length), ((fl Tapi_Charge.enc a_0.Charges) ≠ []), (sub (fl Tapi_Charge.enc a_0.Charges) (k17 * 7) 7 = [.str x85.Key, .str x85.Vehicle, .str x85.System, .int .i64 x85.Class, .int .i64 x85.Time, .lst (fl Tapi_Line.enc x85.Lines) x85.Lines.length, .int .i64 x85.Cents]), ((↑k17 : Int) = ((k17 : Nat) : Int) ∧ k17 < b_1.Charges.length), ((fl Tapi_Charge.enc b_1.Charges) ≠ []), (sub (fl Tapi_Charge.enc b_1.Charges) (k17 * 7) 7 = [.str x87.Key, .str x87.Vehicle, .str x87.System, .int .i64 x87.Class, .int .i64 x87.Time, .lst (fl Tapi_Line.enc x87.Lines) x87.Lines.length, .int .i64 x87.Cents]), ((.agg (Tapi_Charge.enc x85) : AV) = .agg (Tapi_Charge.enc x85)), ((.agg (Tapi_Charge.enc x87) : AV) = .agg (Tapi_Charge.enc x87)), (Ret Tryz.prog GT 28 [.agg (Tapi_Charge.enc x85), .agg (Tapi_Charge.enc x87)] (.bool r89) [])]
theorem batch_Same_L74_p2q (a_0 : Tapi_Result) (b_1 : Tapi_Result) (k17 : Nat) (c84 : (↑k17 : Int) < (↑a_0.Charges.length : Int)) (x85 : Tapi_Charge) (h86 : a_0.Charges[k17]? = some x85) (x87 : Tapi_Charge) (h88 : b_1.Charges[k17]? = some x87) (r89 : Bool) (h90 : batch_Same_C3 x85 x87 = some r89) : allOk (batch_Same_L74_p2 a_0 b_1 k17 x85 x87 r89) := ⟨(decide_eq_true c84), ⟨rfl, get_lt h86⟩, (fl_ne (f := Tapi_Charge.enc) (z := 6) (fun _ => rfl) h86), (fl_sub0 (f := Tapi_Charge.enc) (z := 7) (j := k17) (fun _ => rfl) h86 rfl), ⟨rfl, get_lt h88⟩, (fl_ne (f := Tapi_Charge.enc) (z := 6) (fun _ => rfl) h88), (fl_sub0 (f := Tapi_Charge.enc) (z := 7) (j := k17) (fun _ => rfl) h88 rfl), rfl, rfl, ok1 (batch_Same_C3_ret x85 x87 r89 h90)⟩
theorem batch_Same_L74_0 (a_0 : Tapi_Result) (b_1 : Tapi_Result) (k17 : Nat) (c84 : (↑k17 : Int) < (↑a_0.Charges.length : Int)) (x85 : Tapi_Charge) (h86 : a_0.Charges[k17]? = some x85) (x87 : Tapi_Charge) (h88 : b_1.Charges[k17]? = some x87) (r89 : Bool) (h90 : batch_Same_C3 x85 x87 = some r89) (c91 : r89 = true) (h92 : InR .i64 ((↑k17 : Int) + 1)) : Does Tryz.prog GT 0 (bodyAt Tryz.prog 76 [1, 1, 0, 1, 0, 0]) (batch_Same_L74_H a_0 b_1 k17) .normal (S 32 [(1, .lst (fl Tapi_Charge.enc b_1.Charges) b_1.Charges.length), (2, .fn (.func 28) [] []), (15, .lst (fl Tapi_Charge.enc a_0.Charges) a_0.Charges.length), (16, .int .i64 (↑a_0.Charges.length : Int)), (17, .int .i64 ((↑k17 : Int) + 1))] []) :=
  Does.of_viewM 0 400 ([.op none .a] ++ ((batch_Same_L74_h1 k17 x85 x87 r89) ++ [.br false, .op none .w, .op none .c])) [] (ps := ((batch_Same_L74_p2 a_0 b_1 k17 x85 x87 r89) ++ [((!r89) = false), (IntKind.min .i64 ≤ ((↑k17 : Int) + 1) ∧ ((↑k17 : Int) + 1) ≤ IntKind.max .i64)])) (by kernel_rfl) (by kernel_rfl) (allOk_append.2 ⟨(batch_Same_L74_p2q a_0 b_1 k17 c84 x85 h86 x87 h88 r89 h90), ⟨(not_f c91), ok1 h92⟩⟩)
theorem batch_Same_L74_1 (a_0 : Tapi_Result) (b_1 : Tapi_Result) (k17 : Nat) (c84 : (↑k17 : Int) < (↑a_0.Charges.length : Int)) (x85 : Tapi_Charge) (h86 : a_0.Charges[k17]? = some x85) (x87 : Tapi_Charge) (h88 : b_1.Charges[k17]? = some x87) (r89 : Bool) (h90 : batch_Same_C3 x85 x87 = some r89) (c91 : ¬ (r89 = true)) : Does Tryz.prog GT 0 (bodyAt Tryz.prog 76 [1, 1, 0, 1, 0, 0]) (batch_Same_L74_H a_0 b_1 k17) .ret (S 32 [(6, .bool false)] []) :=
  Does.of_viewM 0 400 ([.op none .a] ++ ((batch_Same_L74_h1 k17 x85 x87 r89) ++ [.br true, .op none .c])) [] (ps := ((batch_Same_L74_p2 a_0 b_1 k17 x85 x87 r89) ++ [((!r89) = true)])) (by kernel_rfl) (by kernel_rfl) (allOk_append.2 ⟨(batch_Same_L74_p2q a_0 b_1 k17 c84 x85 h86 x87 h88 r89 h90), (ok1 (not_t (eq_false_of_ne_true c91)))⟩)
theorem batch_Same_L74_2 (a_0 : Tapi_Result) (b_1 : Tapi_Result) (k17 : Nat) (c84 : ¬ ((↑k17 : Int) < (↑a_0.Charges.length : Int))) : Does Tryz.prog GT 0 (bodyAt Tryz.prog 76 [1, 1, 0, 1, 0, 0]) (batch_Same_L74_H a_0 b_1 k17) (.exit 0) (S 32 [] []) :=
  Does.of_viewM 0 400 ([.op none .a] ++ [.br false]) [] (ps := [((decide ((↑k17 : Int) < (↑a_0.Charges.length : Int))) = false)]) (by kernel_rfl) (by kernel_rfl) (ok1 (decide_eq_false c84))
def batch_Same_L74_X (a_0 : Tapi_Result) (b_1 : Tapi_Result) : (Unit ⊕ Unit) → AEx := fun q => match q with | Sum.inl o => .ret | Sum.inr (o) => (.exit 0)
def batch_Same_L74_E (a_0 : Tapi_Result) (b_1 : Tapi_Result) : (Unit ⊕ Unit) → St := fun q => match q with | Sum.inl o => S 32 [(6, .bool false)] [] | Sum.inr (o) => S 32 [] []
theorem batch_Same_L74_does (a_0 : Tapi_Result) (b_1 : Tapi_Result) {s : Nat} {r : Unit ⊕ Unit} (h : lp (batch_Same_L74_step a_0 b_1) s = some r) : Does Tryz.prog GT 0 (.loop (bodyAt Tryz.prog 76 [1, 1, 0, 1, 0, 0])) (batch_Same_L74_H a_0 b_1 s) (batch_Same_L74_X a_0 b_1 r) (batch_Same_L74_E a_0 b_1 r) := by
  refine Does.lp (H := batch_Same_L74_H a_0 b_1) (X := batch_Same_L74_X a_0 b_1) (E := batch_Same_L74_E a_0 b_1) (fun s s2 h => ?_) (fun s r h => ?_) h
  · revert h; revert s; intro k17 h
    unfold batch_Same_L74_step at h
    try dsimp only at h
    rcases ite_some h with ⟨c84, h⟩ | ⟨c84, h⟩
    · obtain ⟨x85, h86, h⟩ := bind_some h
      obtain ⟨x87, h88, h⟩ := bind_some h
      obtain ⟨r89, h90, h⟩ := bind_some h
      rcases ite_some h with ⟨c91, h⟩ | ⟨c91, h⟩
      · obtain ⟨h92, h⟩ := guard_some h
        simp only [Option.some.injEq, Sum.inl.injEq] at h
        subst h
        have hq := batch_Same_L74_0 a_0 b_1 k17 c84 x85 h86 x87 h88 r89 h90 c91 h92
        first | exact hq | exact Eq.mp (by simp only [batch_Same_L74_H, List.length_set] <;> rfl) hq
      · simp at h
    · simp at h
  · revert h; revert s; intro k17 h
    unfold batch_Same_L74_step at h
    try dsimp only at h
    rcases ite_some h with ⟨c84, h⟩ | ⟨c84, h⟩
    · obtain ⟨x85, h86, h⟩ := bind_some h
      obtain ⟨x87, h88, h⟩ := bind_some h
      obtain ⟨r89, h90, h⟩ := bind_some h
      rcases ite_some h with ⟨c91, h⟩ | ⟨c91, h⟩
      · obtain ⟨h92, h⟩ := guard_some h
        simp at h
      · simp only [Option.some.injEq, Sum.inr.injEq] at h
        subst h
        exact ⟨batch_Same_L74_1 a_0 b_1 k17 c84 x85 h86 x87 h88 r89 h90 c91, by intro q; cases q⟩
    · simp only [Option.some.injEq, Sum.inr.injEq] at h
      subst h
      exact ⟨batch_Same_L74_2 a_0 b_1 k17 c84, by intro q; cases q⟩
noncomputable def batch_Same_L94_step (a_0 : Tapi_Result) (b_1 : Tapi_Result) : Nat → Option (Nat ⊕ (Unit ⊕ Unit)) := fun k13 =>
  if (↑k13 : Int) < (↑a_0.Exclusions.length : Int) then
    (a_0.Exclusions[k13]?).bind fun x103 =>
    (b_1.Exclusions[k13]?).bind fun x105 =>
    if ((x103.ID == x105.ID) && ((x103.Why == x105.Why) && true)) = true then
      if InR .i64 ((↑k13 : Int) + 1) then
        some (Sum.inl (k13 + 1))
      else none
    else
      some (Sum.inr (Sum.inl ()))
  else
    some (Sum.inr (Sum.inr (())))
def batch_Same_L94_H (a_0 : Tapi_Result) (b_1 : Tapi_Result) : Nat → St := fun (s : Nat) => S 26 [(0, .lst (fl Tapi_Exclusion.enc a_0.Exclusions) a_0.Exclusions.length), (1, .lst (fl Tapi_Exclusion.enc b_1.Exclusions) b_1.Exclusions.length), (12, .int .i64 (↑a_0.Exclusions.length : Int)), (13, .int .i64 (↑s : Int))] []
def batch_Same_L94_h1 (k13 : Nat) (x103 : Tapi_Exclusion) (x105 : Tapi_Exclusion) : List CH := ((.br true) :: (cs 4 ((.op none (.i k13)) :: (.op none (.v [.str x103.ID, .int .i64 x103.Why])) :: (cs 2 [.op none (.i k13), .op none (.v [.str x105.ID, .int .i64 x105.Why]), .op none .c]))))
def batch_Same_L94_p2 (a_0 : Tapi_Result) (b_1 : Tapi_Result) (k13 : Nat) (x103 : Tapi_Exclusion) (x105 : Tapi_Exclusion) : List Prop := [((decide ((↑k13 : Int) < (↑a_0.Exclusions.length : Int))) = true), ((↑k13 : Int) = ((k13 : Nat) : Int) ∧ k13 < a_0.Exclusions.length), ((fl Tapi_Exclusion.enc a_0.Exclusions) ≠ []), (sub (fl Tapi_Exclusion.enc a_0.Exclusions) (k13 * 2) 2 = [.str x103.ID, .int .i64 x103.Why]), ((↑k13 : Int) = ((k13 : Nat) : Int) ∧ k13 < b_1.Exclusions.length), ((fl Tapi_Exclusion.enc b_1.Exclusions) ≠ []), (sub (fl Tapi_Exclusion.enc b_1.Exclusions) (k13 * 2) 2 = [.str x105.ID, .int .i64 x105.Why])]
theorem batch_Same_L94_p2q (a_0 : Tapi_Result) (b_1 : Tapi_Result) (k13 : Nat) (c102 : (↑k13 : Int) < (↑a_0.Exclusions.length : Int)) (x103 : Tapi_Exclusion) (h104 : a_0.Exclusions[k13]? = some x103) (x105 : Tapi_Exclusion) (h106 : b_1.Exclusions[k13]? = some x105) : allOk (batch_Same_L94_p2 a_0 b_1 k13 x103 x105) := ⟨(decide_eq_true c102), ⟨rfl, get_lt h104⟩, (fl_ne (f := Tapi_Exclusion.enc) (z := 1) (fun _ => rfl) h104), (fl_sub0 (f := Tapi_Exclusion.enc) (z := 2) (j := k13) (fun _ => rfl) h104 rfl), ⟨rfl, get_lt h106⟩, (fl_ne (f := Tapi_Exclusion.enc) (z := 1) (fun _ => rfl) h106), ok1 (fl_sub0 (f := Tapi_Exclusion.enc) (z := 2) (j := k13) (fun _ => rfl) h106 rfl)⟩
theorem batch_Same_L94_0 (a_0 : Tapi_Result) (b_1 : Tapi_Result) (k13 : Nat) (c102 : (↑k13 : Int) < (↑a_0.Exclusions.length : Int)) (x103 : Tapi_Exclusion) (h104 : a_0.Exclusions[k13]? = some x103) (x105 : Tapi_Exclusion) (h106 : b_1.Exclusions[k13]? = some x105) (c107 : ((x103.ID == x105.ID) && ((x103.Why == x105.Why) && true)) = true) (h108 : InR .i64 ((↑k13 : Int) + 1)) : Does Tryz.prog GT 0 (bodyAt Tryz.prog 35 [1, 1, 0, 1, 0, 0]) (batch_Same_L94_H a_0 b_1 k13) .normal (S 26 [(0, .lst (fl Tapi_Exclusion.enc a_0.Exclusions) a_0.Exclusions.length), (1, .lst (fl Tapi_Exclusion.enc b_1.Exclusions) b_1.Exclusions.length), (12, .int .i64 (↑a_0.Exclusions.length : Int)), (13, .int .i64 ((↑k13 : Int) + 1))] []) :=
  Does.of_viewM 0 400 ([.op none .a] ++ ((batch_Same_L94_h1 k13 x103 x105) ++ [.br false, .op none .w, .op none .c])) [] (ps := ((batch_Same_L94_p2 a_0 b_1 k13 x103 x105) ++ [((!((x103.ID == x105.ID) && ((x103.Why == x105.Why) && true))) = false), (IntKind.min .i64 ≤ ((↑k13 : Int) + 1) ∧ ((↑k13 : Int) + 1) ≤ IntKind.max .i64)])) (by kernel_rfl) (by kernel_rfl) (allOk_append.2 ⟨(batch_Same_L94_p2q a_0 b_1 k13 c102 x103 h104 x105 h106), ⟨(not_f c107), ok1 h108⟩⟩)
theorem batch_Same_L94_1 (a_0 : Tapi_Result) (b_1 : Tapi_Result) (k13 : Nat) (c102 : (↑k13 : Int) < (↑a_0.Exclusions.length : Int)) (x103 : Tapi_Exclusion) (h104 : a_0.Exclusions[k13]? = some x103) (x105 : Tapi_Exclusion) (h106 : b_1.Exclusions[k13]? = some x105) (c107 : ¬ (((x103.ID == x105.ID) && ((x103.Why == x105.Why) && true)) = true)) : Does Tryz.prog GT 0 (bodyAt Tryz.prog 35 [1, 1, 0, 1, 0, 0]) (batch_Same_L94_H a_0 b_1 k13) .ret (S 26 [(4, .bool false)] []) :=
  Does.of_viewM 0 400 ([.op none .a] ++ ((batch_Same_L94_h1 k13 x103 x105) ++ [.br true, .op none .c])) [] (ps := ((batch_Same_L94_p2 a_0 b_1 k13 x103 x105) ++ [((!((x103.ID == x105.ID) && ((x103.Why == x105.Why) && true))) = true)])) (by kernel_rfl) (by kernel_rfl) (allOk_append.2 ⟨(batch_Same_L94_p2q a_0 b_1 k13 c102 x103 h104 x105 h106), (ok1 (not_t (eq_false_of_ne_true c107)))⟩)
theorem batch_Same_L94_2 (a_0 : Tapi_Result) (b_1 : Tapi_Result) (k13 : Nat) (c102 : ¬ ((↑k13 : Int) < (↑a_0.Exclusions.length : Int))) : Does Tryz.prog GT 0 (bodyAt Tryz.prog 35 [1, 1, 0, 1, 0, 0]) (batch_Same_L94_H a_0 b_1 k13) (.exit 0) (S 26 [] []) :=
  Does.of_viewM 0 400 ([.op none .a] ++ [.br false]) [] (ps := [((decide ((↑k13 : Int) < (↑a_0.Exclusions.length : Int))) = false)]) (by kernel_rfl) (by kernel_rfl) (ok1 (decide_eq_false c102))
def batch_Same_L94_X (a_0 : Tapi_Result) (b_1 : Tapi_Result) : (Unit ⊕ Unit) → AEx := fun q => match q with | Sum.inl o => .ret | Sum.inr (o) => (.exit 0)
def batch_Same_L94_E (a_0 : Tapi_Result) (b_1 : Tapi_Result) : (Unit ⊕ Unit) → St := fun q => match q with | Sum.inl o => S 26 [(4, .bool false)] [] | Sum.inr (o) => S 26 [] []
theorem batch_Same_L94_does (a_0 : Tapi_Result) (b_1 : Tapi_Result) {s : Nat} {r : Unit ⊕ Unit} (h : lp (batch_Same_L94_step a_0 b_1) s = some r) : Does Tryz.prog GT 0 (.loop (bodyAt Tryz.prog 35 [1, 1, 0, 1, 0, 0])) (batch_Same_L94_H a_0 b_1 s) (batch_Same_L94_X a_0 b_1 r) (batch_Same_L94_E a_0 b_1 r) := by
  refine Does.lp (H := batch_Same_L94_H a_0 b_1) (X := batch_Same_L94_X a_0 b_1) (E := batch_Same_L94_E a_0 b_1) (fun s s2 h => ?_) (fun s r h => ?_) h
  · revert h; revert s; intro k13 h
    unfold batch_Same_L94_step at h
    try dsimp only at h
    rcases ite_some h with ⟨c102, h⟩ | ⟨c102, h⟩
    · obtain ⟨x103, h104, h⟩ := bind_some h
      obtain ⟨x105, h106, h⟩ := bind_some h
      rcases ite_some h with ⟨c107, h⟩ | ⟨c107, h⟩
      · obtain ⟨h108, h⟩ := guard_some h
        simp only [Option.some.injEq, Sum.inl.injEq] at h
        subst h
        have hq := batch_Same_L94_0 a_0 b_1 k13 c102 x103 h104 x105 h106 c107 h108
        first | exact hq | exact Eq.mp (by simp only [batch_Same_L94_H, List.length_set] <;> rfl) hq
      · simp at h
    · simp at h
  · revert h; revert s; intro k13 h
    unfold batch_Same_L94_step at h
    try dsimp only at h
    rcases ite_some h with ⟨c102, h⟩ | ⟨c102, h⟩
    · obtain ⟨x103, h104, h⟩ := bind_some h
      obtain ⟨x105, h106, h⟩ := bind_some h
      rcases ite_some h with ⟨c107, h⟩ | ⟨c107, h⟩
      · obtain ⟨h108, h⟩ := guard_some h
        simp at h
      · simp only [Option.some.injEq, Sum.inr.injEq] at h
        subst h
        exact ⟨batch_Same_L94_1 a_0 b_1 k13 c102 x103 h104 x105 h106 c107, by intro q; cases q⟩
    · simp only [Option.some.injEq, Sum.inr.injEq] at h
      subst h
      exact ⟨batch_Same_L94_2 a_0 b_1 k13 c102, by intro q; cases q⟩
noncomputable def batch_Same (a_0 : Tapi_Result) (b_1 : Tapi_Result) : Option Bool :=
  if (↑a_0.Passages.length : Int) = (↑b_1.Passages.length : Int) then
    (lp (batch_Same_L2_step a_0 b_1) (0 : Nat)).bind fun qq => match qq with
    | Sum.inl o2 =>
      some false
    | Sum.inr (o2) =>
      if (↑a_0.Rejects.length : Int) = (↑b_1.Rejects.length : Int) then
        (lp (batch_Same_L22_step a_0 b_1) (0 : Nat)).bind fun qq => match qq with
        | Sum.inl o22 =>
          some false
        | Sum.inr (o22) =>
          if (↑a_0.Trips.length : Int) = (↑b_1.Trips.length : Int) then
            (lp (batch_Same_L38_step a_0 b_1) (0 : Nat)).bind fun qq => match qq with
            | Sum.inl o38 =>
              some false
            | Sum.inr (o38) =>
              if (↑a_0.Stays.length : Int) = (↑b_1.Stays.length : Int) then
                (lp (batch_Same_L58_step a_0 b_1) (0 : Nat)).bind fun qq => match qq with
                | Sum.inl o58 =>
                  some false
                | Sum.inr (o58) =>
                  if (↑a_0.Charges.length : Int) = (↑b_1.Charges.length : Int) then
                    (lp (batch_Same_L74_step a_0 b_1) (0 : Nat)).bind fun qq => match qq with
                    | Sum.inl o74 =>
                      some false
                    | Sum.inr (o74) =>
                      if (↑a_0.Exclusions.length : Int) = (↑b_1.Exclusions.length : Int) then
                        (lp (batch_Same_L94_step a_0 b_1) (0 : Nat)).bind fun qq => match qq with
                        | Sum.inl o94 =>
                          some false
                        | Sum.inr (o94) =>
                          some true
                      else
                        some false
                  else
                    some false
              else
                some false
          else
            some false
      else
        some false
  else
    some false
def batch_Same_h1  : List CH := (cs 22 [.op none .a])
def batch_Same_h2  : List CH := ((.br false) :: (cs 3 []))
def batch_Same_h3 (a_0 : Tapi_Result) (b_1 : Tapi_Result) : List CH := ((.fcut 0 (.exit 0) [] [] [] [(1, .lst (fl Tapi_Passage.enc b_1.Passages) b_1.Passages.length), (2, .fn (.func 24) [] []), (15, .lst (fl Tapi_Passage.enc a_0.Passages) a_0.Passages.length), (16, .int .i64 (↑a_0.Passages.length : Int)), (17, .int .i64 (↑(0 : Nat) : Int))] []) :: (cs 13 [.op none .a]))
def batch_Same_h4  : List CH := ((.br false) :: (cs 3 []))
def batch_Same_h5 (a_0 : Tapi_Result) (b_1 : Tapi_Result) : List CH := ((.fcut 0 (.exit 0) [] [] [] [(0, .lst (fl Tapi_Reject.enc a_0.Rejects) a_0.Rejects.length), (1, .lst (fl Tapi_Reject.enc b_1.Rejects) b_1.Rejects.length), (12, .int .i64 (↑a_0.Rejects.length : Int)), (13, .int .i64 (↑(0 : Nat) : Int))] []) :: (cs 19 [.op none .a]))
def batch_Same_h6  : List CH := ((.br false) :: (cs 3 []))
def batch_Same_h7 (a_0 : Tapi_Result) (b_1 : Tapi_Result) : List CH := ((.fcut 0 (.exit 0) [] [] [] [(1, .lst (fl Tapi_Trip.enc b_1.Trips) b_1.Trips.length), (2, .fn (.func 26) [] []), (15, .lst (fl Tapi_Trip.enc a_0.Trips) a_0.Trips.length), (16, .int .i64 (↑a_0.Trips.length : Int)), (17, .int .i64 (↑(0 : Nat) : Int))] []) :: (cs 14 [.op none .a]))
def batch_Same_h8  : List CH := ((.br false) :: (cs 3 []))
def batch_Same_h9 (a_0 : Tapi_Result) (b_1 : Tapi_Result) : List CH := ((.fcut 0 (.exit 0) [] [] [] [(0, .lst (fl Tapi_Stay.enc a_0.Stays) a_0.Stays.length), (1, .lst (fl Tapi_Stay.enc b_1.Stays) b_1.Stays.length), (12, .int .i64 (↑a_0.Stays.length : Int)), (13, .int .i64 (↑(0 : Nat) : Int))] []) :: (cs 19 [.op none .a]))
def batch_Same_h10  : List CH := ((.br false) :: (cs 3 []))
def batch_Same_h11 (a_0 : Tapi_Result) (b_1 : Tapi_Result) : List CH := ((.fcut 0 (.exit 0) [] [] [] [(1, .lst (fl Tapi_Charge.enc b_1.Charges) b_1.Charges.length), (2, .fn (.func 28) [] []), (15, .lst (fl Tapi_Charge.enc a_0.Charges) a_0.Charges.length), (16, .int .i64 (↑a_0.Charges.length : Int)), (17, .int .i64 (↑(0 : Nat) : Int))] []) :: (cs 14 [.op none .a]))
def batch_Same_h12  : List CH := ((.br false) :: (cs 3 []))
def batch_Same_p13 (a_0 : Tapi_Result) (b_1 : Tapi_Result) : List Prop := [((!((↑a_0.Passages.length : Int) == (↑b_1.Passages.length : Int))) = false), ((.lst (fl Tapi_Passage.enc b_1.Passages) b_1.Passages.length : AV) = .lst (fl Tapi_Passage.enc b_1.Passages) b_1.Passages.length), ((.fn (.func 24) [] [] : AV) = .fn (.func 24) [] []), ((.lst (fl Tapi_Passage.enc a_0.Passages) a_0.Passages.length : AV) = .lst (fl Tapi_Passage.enc a_0.Passages) a_0.Passages.length), ((.int .i64 (↑a_0.Passages.length : Int) : AV) = .int .i64 (↑a_0.Passages.length : Int)), ((.int .i64 0 : AV) = .int .i64 (↑(0 : Nat) : Int))]
theorem batch_Same_p13q (a_0 : Tapi_Result) (b_1 : Tapi_Result) (c1 : (↑a_0.Passages.length : Int) = (↑b_1.Passages.length : Int)) : allOk (batch_Same_p13 a_0 b_1) := ⟨(not_f (beq_t c1)), rfl, rfl, rfl, rfl, ok1 rfl⟩
def batch_Same_p14 (a_0 : Tapi_Result) (b_1 : Tapi_Result) : List Prop := [((!((↑a_0.Rejects.length : Int) == (↑b_1.Rejects.length : Int))) = false), ((.lst (fl Tapi_Reject.enc a_0.Rejects) a_0.Rejects.length : AV) = .lst (fl Tapi_Reject.enc a_0.Rejects) a_0.Rejects.length), ((.lst (fl Tapi_Reject.enc b_1.Rejects) b_1.Rejects.length : AV) = .lst (fl Tapi_Reject.enc b_1.Rejects) b_1.Rejects.length), ((.int .i64 (↑a_0.Rejects.length : Int) : AV) = .int .i64 (↑a_0.Rejects.length : Int)), ((.int .i64 0 : AV) = .int .i64 (↑(0 : Nat) : Int))]
theorem batch_Same_p14q (a_0 : Tapi_Result) (b_1 : Tapi_Result) (c21 : (↑a_0.Rejects.length : Int) = (↑b_1.Rejects.length : Int)) : allOk (batch_Same_p14 a_0 b_1) := ⟨(not_f (beq_t c21)), rfl, rfl, rfl, ok1 rfl⟩
def batch_Same_p15 (a_0 : Tapi_Result) (b_1 : Tapi_Result) : List Prop := [((!((↑a_0.Trips.length : Int) == (↑b_1.Trips.length : Int))) = false), ((.lst (fl Tapi_Trip.enc b_1.Trips) b_1.Trips.length : AV) = .lst (fl Tapi_Trip.enc b_1.Trips) b_1.Trips.length), ((.fn (.func 26) [] [] : AV) = .fn (.func 26) [] []), ((.lst (fl Tapi_Trip.enc a_0.Trips) a_0.Trips.length : AV) = .lst (fl Tapi_Trip.enc a_0.Trips) a_0.Trips.length), ((.int .i64 (↑a_0.Trips.length : Int) : AV) = .int .i64 (↑a_0.Trips.length : Int)), ((.int .i64 0 : AV) = .int .i64 (↑(0 : Nat) : Int))]
theorem batch_Same_p15q (a_0 : Tapi_Result) (b_1 : Tapi_Result) (c37 : (↑a_0.Trips.length : Int) = (↑b_1.Trips.length : Int)) : allOk (batch_Same_p15 a_0 b_1) := ⟨(not_f (beq_t c37)), rfl, rfl, rfl, rfl, ok1 rfl⟩
def batch_Same_p16 (a_0 : Tapi_Result) (b_1 : Tapi_Result) : List Prop := [((!((↑a_0.Stays.length : Int) == (↑b_1.Stays.length : Int))) = false), ((.lst (fl Tapi_Stay.enc a_0.Stays) a_0.Stays.length : AV) = .lst (fl Tapi_Stay.enc a_0.Stays) a_0.Stays.length), ((.lst (fl Tapi_Stay.enc b_1.Stays) b_1.Stays.length : AV) = .lst (fl Tapi_Stay.enc b_1.Stays) b_1.Stays.length), ((.int .i64 (↑a_0.Stays.length : Int) : AV) = .int .i64 (↑a_0.Stays.length : Int)), ((.int .i64 0 : AV) = .int .i64 (↑(0 : Nat) : Int))]
theorem batch_Same_p16q (a_0 : Tapi_Result) (b_1 : Tapi_Result) (c57 : (↑a_0.Stays.length : Int) = (↑b_1.Stays.length : Int)) : allOk (batch_Same_p16 a_0 b_1) := ⟨(not_f (beq_t c57)), rfl, rfl, rfl, ok1 rfl⟩
def batch_Same_p17 (a_0 : Tapi_Result) (b_1 : Tapi_Result) : List Prop := [((!((↑a_0.Charges.length : Int) == (↑b_1.Charges.length : Int))) = false), ((.lst (fl Tapi_Charge.enc b_1.Charges) b_1.Charges.length : AV) = .lst (fl Tapi_Charge.enc b_1.Charges) b_1.Charges.length), ((.fn (.func 28) [] [] : AV) = .fn (.func 28) [] []), ((.lst (fl Tapi_Charge.enc a_0.Charges) a_0.Charges.length : AV) = .lst (fl Tapi_Charge.enc a_0.Charges) a_0.Charges.length), ((.int .i64 (↑a_0.Charges.length : Int) : AV) = .int .i64 (↑a_0.Charges.length : Int)), ((.int .i64 0 : AV) = .int .i64 (↑(0 : Nat) : Int))]
theorem batch_Same_p17q (a_0 : Tapi_Result) (b_1 : Tapi_Result) (c73 : (↑a_0.Charges.length : Int) = (↑b_1.Charges.length : Int)) : allOk (batch_Same_p17 a_0 b_1) := ⟨(not_f (beq_t c73)), rfl, rfl, rfl, rfl, ok1 rfl⟩
def batch_Same_p18 (a_0 : Tapi_Result) (b_1 : Tapi_Result) : List Prop := [((!((↑a_0.Exclusions.length : Int) == (↑b_1.Exclusions.length : Int))) = false), ((.lst (fl Tapi_Exclusion.enc a_0.Exclusions) a_0.Exclusions.length : AV) = .lst (fl Tapi_Exclusion.enc a_0.Exclusions) a_0.Exclusions.length), ((.lst (fl Tapi_Exclusion.enc b_1.Exclusions) b_1.Exclusions.length : AV) = .lst (fl Tapi_Exclusion.enc b_1.Exclusions) b_1.Exclusions.length), ((.int .i64 (↑a_0.Exclusions.length : Int) : AV) = .int .i64 (↑a_0.Exclusions.length : Int)), ((.int .i64 0 : AV) = .int .i64 (↑(0 : Nat) : Int))]
theorem batch_Same_p18q (a_0 : Tapi_Result) (b_1 : Tapi_Result) (c93 : (↑a_0.Exclusions.length : Int) = (↑b_1.Exclusions.length : Int)) : allOk (batch_Same_p18 a_0 b_1) := ⟨(not_f (beq_t c93)), rfl, rfl, rfl, ok1 rfl⟩
theorem batch_Same_0 (a_0 : Tapi_Result) (b_1 : Tapi_Result) (c1 : (↑a_0.Passages.length : Int) = (↑b_1.Passages.length : Int)) (o2 : Unit) (hl2 : lp (batch_Same_L2_step a_0 b_1) (0 : Nat) = some (Sum.inl o2)) : Ret Tryz.prog GT 8 [.agg (Tapi_Result.enc a_0), .agg (Tapi_Result.enc b_1)] (.bool false) [] :=
  Ret.of_view 400 ((batch_Same_h1) ++ ((batch_Same_h2) ++ ((.fcut 0 .ret [(6, .bool false)] [] [] [(1, .lst (fl Tapi_Passage.enc b_1.Passages) b_1.Passages.length), (2, .fn (.func 24) [] []), (15, .lst (fl Tapi_Passage.enc a_0.Passages) a_0.Passages.length), (16, .int .i64 (↑a_0.Passages.length : Int)), (17, .int .i64 (↑(0 : Nat) : Int))] []) :: (cs 39 [])))) [] (ps := ((batch_Same_p13 a_0 b_1) ++ [(Does Tryz.prog GT 0 (.loop (bodyAt Tryz.prog 74 [1, 1, 0, 1, 0, 0])) (S 32 [(1, .lst (fl Tapi_Passage.enc b_1.Passages) b_1.Passages.length), (2, .fn (.func 24) [] []), (15, .lst (fl Tapi_Passage.enc a_0.Passages) a_0.Passages.length), (16, .int .i64 (↑a_0.Passages.length : Int)), (17, .int .i64 (↑(0 : Nat) : Int))] []) .ret (S 32 [(6, .bool false)] []))])) (by kernel_rfl) (by kernel_rfl) (allOk_append.2 ⟨(batch_Same_p13q a_0 b_1 c1), (ok1 (batch_Same_L2_does a_0 b_1 (s := (0 : Nat)) (r := Sum.inl o2) hl2))⟩)
theorem batch_Same_1 (a_0 : Tapi_Result) (b_1 : Tapi_Result) (c1 : (↑a_0.Passages.length : Int) = (↑b_1.Passages.length : Int)) (o2 : Unit) (hl2 : lp (batch_Same_L2_step a_0 b_1) (0 : Nat) = some (Sum.inr (o2))) (c21 : (↑a_0.Rejects.length : Int) = (↑b_1.Rejects.length : Int)) (o22 : Unit) (hl22 : lp (batch_Same_L22_step a_0 b_1) (0 : Nat) = some (Sum.inl o22)) : Ret Tryz.prog GT 8 [.agg (Tapi_Result.enc a_0), .agg (Tapi_Result.enc b_1)] (.bool false) [] :=
  Ret.of_view 400 ((batch_Same_h1) ++ ((batch_Same_h2) ++ ((batch_Same_h3 a_0 b_1) ++ ((batch_Same_h4) ++ ((.fcut 0 .ret [(4, .bool false)] [] [] [(0, .lst (fl Tapi_Reject.enc a_0.Rejects) a_0.Rejects.length), (1, .lst (fl Tapi_Reject.enc b_1.Rejects) b_1.Rejects.length), (12, .int .i64 (↑a_0.Rejects.length : Int)), (13, .int .i64 (↑(0 : Nat) : Int))] []) :: (cs 32 [])))))) [] (ps := ((batch_Same_p13 a_0 b_1) ++ ([(Does Tryz.prog GT 0 (.loop (bodyAt Tryz.prog 74 [1, 1, 0, 1, 0, 0])) (S 32 [(1, .lst (fl Tapi_Passage.enc b_1.Passages) b_1.Passages.length), (2, .fn (.func 24) [] []), (15, .lst (fl Tapi_Passage.enc a_0.Passages) a_0.Passages.length), (16, .int .i64 (↑a_0.Passages.length : Int)), (17, .int .i64 (↑(0 : Nat) : Int))] []) (.exit 0) (S 32 [] []))] ++ ((batch_Same_p14 a_0 b_1) ++ [(Does Tryz.prog GT 0 (.loop (bodyAt Tryz.prog 31 [1, 1, 0, 1, 0, 0])) (S 26 [(0, .lst (fl Tapi_Reject.enc a_0.Rejects) a_0.Rejects.length), (1, .lst (fl Tapi_Reject.enc b_1.Rejects) b_1.Rejects.length), (12, .int .i64 (↑a_0.Rejects.length : Int)), (13, .int .i64 (↑(0 : Nat) : Int))] []) .ret (S 26 [(4, .bool false)] []))])))) (by kernel_rfl) (by kernel_rfl) (allOk_append.2 ⟨(batch_Same_p13q a_0 b_1 c1), (allOk_append.2 ⟨(ok1 (batch_Same_L2_does a_0 b_1 (s := (0 : Nat)) (r := Sum.inr (o2)) hl2)), (allOk_append.2 ⟨(batch_Same_p14q a_0 b_1 c21), (ok1 (batch_Same_L22_does a_0 b_1 (s := (0 : Nat)) (r := Sum.inl o22) hl22))⟩)⟩)⟩)
theorem batch_Same_2 (a_0 : Tapi_Result) (b_1 : Tapi_Result) (c1 : (↑a_0.Passages.length : Int) = (↑b_1.Passages.length : Int)) (o2 : Unit) (hl2 : lp (batch_Same_L2_step a_0 b_1) (0 : Nat) = some (Sum.inr (o2))) (c21 : (↑a_0.Rejects.length : Int) = (↑b_1.Rejects.length : Int)) (o22 : Unit) (hl22 : lp (batch_Same_L22_step a_0 b_1) (0 : Nat) = some (Sum.inr (o22))) (c37 : (↑a_0.Trips.length : Int) = (↑b_1.Trips.length : Int)) (o38 : Unit) (hl38 : lp (batch_Same_L38_step a_0 b_1) (0 : Nat) = some (Sum.inl o38)) : Ret Tryz.prog GT 8 [.agg (Tapi_Result.enc a_0), .agg (Tapi_Result.enc b_1)] (.bool false) [] :=
  Ret.of_view 400 ((batch_Same_h1) ++ ((batch_Same_h2) ++ ((batch_Same_h3 a_0 b_1) ++ ((batch_Same_h4) ++ ((batch_Same_h5 a_0 b_1) ++ ((batch_Same_h6) ++ ((.fcut 0 .ret [(6, .bool false)] [] [] [(1, .lst (fl Tapi_Trip.enc b_1.Trips) b_1.Trips.length), (2, .fn (.func 26) [] []), (15, .lst (fl Tapi_Trip.enc a_0.Trips) a_0.Trips.length), (16, .int .i64 (↑a_0.Trips.length : Int)), (17, .int .i64 (↑(0 : Nat) : Int))] []) :: (cs 25 [])))))))) [] (ps := ((batch_Same_p13 a_0 b_1) ++ ([(Does Tryz.prog GT 0 (.loop (bodyAt Tryz.prog 74 [1, 1, 0, 1, 0, 0])) (S 32 [(1, .lst (fl Tapi_Passage.enc b_1.Passages) b_1.Passages.length), (2, .fn (.func 24) [] []), (15, .lst (fl Tapi_Passage.enc a_0.Passages) a_0.Passages.length), (16, .int .i64 (↑a_0.Passages.length : Int)), (17, .int .i64 (↑(0 : Nat) : Int))] []) (.exit 0) (S 32 [] []))] ++ ((batch_Same_p14 a_0 b_1) ++ ([(Does Tryz.prog GT 0 (.loop (bodyAt Tryz.prog 31 [1, 1, 0, 1, 0, 0])) (S 26 [(0, .lst (fl Tapi_Reject.enc a_0.Rejects) a_0.Rejects.length), (1, .lst (fl Tapi_Reject.enc b_1.Rejects) b_1.Rejects.length), (12, .int .i64 (↑a_0.Rejects.length : Int)), (13, .int .i64 (↑(0 : Nat) : Int))] []) (.exit 0) (S 26 [] []))] ++ ((batch_Same_p15 a_0 b_1) ++ [(Does Tryz.prog GT 0 (.loop (bodyAt Tryz.prog 75 [1, 1, 0, 1, 0, 0])) (S 32 [(1, .lst (fl Tapi_Trip.enc b_1.Trips) b_1.Trips.length), (2, .fn (.func 26) [] []), (15, .lst (fl Tapi_Trip.enc a_0.Trips) a_0.Trips.length), (16, .int .i64 (↑a_0.Trips.length : Int)), (17, .int .i64 (↑(0 : Nat) : Int))] []) .ret (S 32 [(6, .bool false)] []))])))))) (by kernel_rfl) (by kernel_rfl) (allOk_append.2 ⟨(batch_Same_p13q a_0 b_1 c1), (allOk_append.2 ⟨(ok1 (batch_Same_L2_does a_0 b_1 (s := (0 : Nat)) (r := Sum.inr (o2)) hl2)), (allOk_append.2 ⟨(batch_Same_p14q a_0 b_1 c21), (allOk_append.2 ⟨(ok1 (batch_Same_L22_does a_0 b_1 (s := (0 : Nat)) (r := Sum.inr (o22)) hl22)), (allOk_append.2 ⟨(batch_Same_p15q a_0 b_1 c37), (ok1 (batch_Same_L38_does a_0 b_1 (s := (0 : Nat)) (r := Sum.inl o38) hl38))⟩)⟩)⟩)⟩)⟩)
theorem batch_Same_3 (a_0 : Tapi_Result) (b_1 : Tapi_Result) (c1 : (↑a_0.Passages.length : Int) = (↑b_1.Passages.length : Int)) (o2 : Unit) (hl2 : lp (batch_Same_L2_step a_0 b_1) (0 : Nat) = some (Sum.inr (o2))) (c21 : (↑a_0.Rejects.length : Int) = (↑b_1.Rejects.length : Int)) (o22 : Unit) (hl22 : lp (batch_Same_L22_step a_0 b_1) (0 : Nat) = some (Sum.inr (o22))) (c37 : (↑a_0.Trips.length : Int) = (↑b_1.Trips.length : Int)) (o38 : Unit) (hl38 : lp (batch_Same_L38_step a_0 b_1) (0 : Nat) = some (Sum.inr (o38))) (c57 : (↑a_0.Stays.length : Int) = (↑b_1.Stays.length : Int)) (o58 : Unit) (hl58 : lp (batch_Same_L58_step a_0 b_1) (0 : Nat) = some (Sum.inl o58)) : Ret Tryz.prog GT 8 [.agg (Tapi_Result.enc a_0), .agg (Tapi_Result.enc b_1)] (.bool false) [] :=
  Ret.of_view 400 ((batch_Same_h1) ++ ((batch_Same_h2) ++ ((batch_Same_h3 a_0 b_1) ++ ((batch_Same_h4) ++ ((batch_Same_h5 a_0 b_1) ++ ((batch_Same_h6) ++ ((batch_Same_h7 a_0 b_1) ++ ((batch_Same_h8) ++ ((.fcut 0 .ret [(4, .bool false)] [] [] [(0, .lst (fl Tapi_Stay.enc a_0.Stays) a_0.Stays.length), (1, .lst (fl Tapi_Stay.enc b_1.Stays) b_1.Stays.length), (12, .int .i64 (↑a_0.Stays.length : Int)), (13, .int .i64 (↑(0 : Nat) : Int))] []) :: (cs 17 [])))))))))) [] (ps := ((batch_Same_p13 a_0 b_1) ++ ([(Does Tryz.prog GT 0 (.loop (bodyAt Tryz.prog 74 [1, 1, 0, 1, 0, 0])) (S 32 [(1, .lst (fl Tapi_Passage.enc b_1.Passages) b_1.Passages.length), (2, .fn (.func 24) [] []), (15, .lst (fl Tapi_Passage.enc a_0.Passages) a_0.Passages.length), (16, .int .i64 (↑a_0.Passages.length : Int)), (17, .int .i64 (↑(0 : Nat) : Int))] []) (.exit 0) (S 32 [] []))] ++ ((batch_Same_p14 a_0 b_1) ++ ([(Does Tryz.prog GT 0 (.loop (bodyAt Tryz.prog 31 [1, 1, 0, 1, 0, 0])) (S 26 [(0, .lst (fl Tapi_Reject.enc a_0.Rejects) a_0.Rejects.length), (1, .lst (fl Tapi_Reject.enc b_1.Rejects) b_1.Rejects.length), (12, .int .i64 (↑a_0.Rejects.length : Int)), (13, .int .i64 (↑(0 : Nat) : Int))] []) (.exit 0) (S 26 [] []))] ++ ((batch_Same_p15 a_0 b_1) ++ ([(Does Tryz.prog GT 0 (.loop (bodyAt Tryz.prog 75 [1, 1, 0, 1, 0, 0])) (S 32 [(1, .lst (fl Tapi_Trip.enc b_1.Trips) b_1.Trips.length), (2, .fn (.func 26) [] []), (15, .lst (fl Tapi_Trip.enc a_0.Trips) a_0.Trips.length), (16, .int .i64 (↑a_0.Trips.length : Int)), (17, .int .i64 (↑(0 : Nat) : Int))] []) (.exit 0) (S 32 [] []))] ++ ((batch_Same_p16 a_0 b_1) ++ [(Does Tryz.prog GT 0 (.loop (bodyAt Tryz.prog 33 [1, 1, 0, 1, 0, 0])) (S 26 [(0, .lst (fl Tapi_Stay.enc a_0.Stays) a_0.Stays.length), (1, .lst (fl Tapi_Stay.enc b_1.Stays) b_1.Stays.length), (12, .int .i64 (↑a_0.Stays.length : Int)), (13, .int .i64 (↑(0 : Nat) : Int))] []) .ret (S 26 [(4, .bool false)] []))])))))))) (by kernel_rfl) (by kernel_rfl) (allOk_append.2 ⟨(batch_Same_p13q a_0 b_1 c1), (allOk_append.2 ⟨(ok1 (batch_Same_L2_does a_0 b_1 (s := (0 : Nat)) (r := Sum.inr (o2)) hl2)), (allOk_append.2 ⟨(batch_Same_p14q a_0 b_1 c21), (allOk_append.2 ⟨(ok1 (batch_Same_L22_does a_0 b_1 (s := (0 : Nat)) (r := Sum.inr (o22)) hl22)), (allOk_append.2 ⟨(batch_Same_p15q a_0 b_1 c37), (allOk_append.2 ⟨(ok1 (batch_Same_L38_does a_0 b_1 (s := (0 : Nat)) (r := Sum.inr (o38)) hl38)), (allOk_append.2 ⟨(batch_Same_p16q a_0 b_1 c57), (ok1 (batch_Same_L58_does a_0 b_1 (s := (0 : Nat)) (r := Sum.inl o58) hl58))⟩)⟩)⟩)⟩)⟩)⟩)⟩)
theorem batch_Same_4 (a_0 : Tapi_Result) (b_1 : Tapi_Result) (c1 : (↑a_0.Passages.length : Int) = (↑b_1.Passages.length : Int)) (o2 : Unit) (hl2 : lp (batch_Same_L2_step a_0 b_1) (0 : Nat) = some (Sum.inr (o2))) (c21 : (↑a_0.Rejects.length : Int) = (↑b_1.Rejects.length : Int)) (o22 : Unit) (hl22 : lp (batch_Same_L22_step a_0 b_1) (0 : Nat) = some (Sum.inr (o22))) (c37 : (↑a_0.Trips.length : Int) = (↑b_1.Trips.length : Int)) (o38 : Unit) (hl38 : lp (batch_Same_L38_step a_0 b_1) (0 : Nat) = some (Sum.inr (o38))) (c57 : (↑a_0.Stays.length : Int) = (↑b_1.Stays.length : Int)) (o58 : Unit) (hl58 : lp (batch_Same_L58_step a_0 b_1) (0 : Nat) = some (Sum.inr (o58))) (c73 : (↑a_0.Charges.length : Int) = (↑b_1.Charges.length : Int)) (o74 : Unit) (hl74 : lp (batch_Same_L74_step a_0 b_1) (0 : Nat) = some (Sum.inl o74)) : Ret Tryz.prog GT 8 [.agg (Tapi_Result.enc a_0), .agg (Tapi_Result.enc b_1)] (.bool false) [] :=
  Ret.of_view 400 ((batch_Same_h1) ++ ((batch_Same_h2) ++ ((batch_Same_h3 a_0 b_1) ++ ((batch_Same_h4) ++ ((batch_Same_h5 a_0 b_1) ++ ((batch_Same_h6) ++ ((batch_Same_h7 a_0 b_1) ++ ((batch_Same_h8) ++ ((batch_Same_h9 a_0 b_1) ++ ((batch_Same_h10) ++ ((.fcut 0 .ret [(6, .bool false)] [] [] [(1, .lst (fl Tapi_Charge.enc b_1.Charges) b_1.Charges.length), (2, .fn (.func 28) [] []), (15, .lst (fl Tapi_Charge.enc a_0.Charges) a_0.Charges.length), (16, .int .i64 (↑a_0.Charges.length : Int)), (17, .int .i64 (↑(0 : Nat) : Int))] []) :: (cs 10 [])))))))))))) [] (ps := ((batch_Same_p13 a_0 b_1) ++ ([(Does Tryz.prog GT 0 (.loop (bodyAt Tryz.prog 74 [1, 1, 0, 1, 0, 0])) (S 32 [(1, .lst (fl Tapi_Passage.enc b_1.Passages) b_1.Passages.length), (2, .fn (.func 24) [] []), (15, .lst (fl Tapi_Passage.enc a_0.Passages) a_0.Passages.length), (16, .int .i64 (↑a_0.Passages.length : Int)), (17, .int .i64 (↑(0 : Nat) : Int))] []) (.exit 0) (S 32 [] []))] ++ ((batch_Same_p14 a_0 b_1) ++ ([(Does Tryz.prog GT 0 (.loop (bodyAt Tryz.prog 31 [1, 1, 0, 1, 0, 0])) (S 26 [(0, .lst (fl Tapi_Reject.enc a_0.Rejects) a_0.Rejects.length), (1, .lst (fl Tapi_Reject.enc b_1.Rejects) b_1.Rejects.length), (12, .int .i64 (↑a_0.Rejects.length : Int)), (13, .int .i64 (↑(0 : Nat) : Int))] []) (.exit 0) (S 26 [] []))] ++ ((batch_Same_p15 a_0 b_1) ++ ([(Does Tryz.prog GT 0 (.loop (bodyAt Tryz.prog 75 [1, 1, 0, 1, 0, 0])) (S 32 [(1, .lst (fl Tapi_Trip.enc b_1.Trips) b_1.Trips.length), (2, .fn (.func 26) [] []), (15, .lst (fl Tapi_Trip.enc a_0.Trips) a_0.Trips.length), (16, .int .i64 (↑a_0.Trips.length : Int)), (17, .int .i64 (↑(0 : Nat) : Int))] []) (.exit 0) (S 32 [] []))] ++ ((batch_Same_p16 a_0 b_1) ++ ([(Does Tryz.prog GT 0 (.loop (bodyAt Tryz.prog 33 [1, 1, 0, 1, 0, 0])) (S 26 [(0, .lst (fl Tapi_Stay.enc a_0.Stays) a_0.Stays.length), (1, .lst (fl Tapi_Stay.enc b_1.Stays) b_1.Stays.length), (12, .int .i64 (↑a_0.Stays.length : Int)), (13, .int .i64 (↑(0 : Nat) : Int))] []) (.exit 0) (S 26 [] []))] ++ ((batch_Same_p17 a_0 b_1) ++ [(Does Tryz.prog GT 0 (.loop (bodyAt Tryz.prog 76 [1, 1, 0, 1, 0, 0])) (S 32 [(1, .lst (fl Tapi_Charge.enc b_1.Charges) b_1.Charges.length), (2, .fn (.func 28) [] []), (15, .lst (fl Tapi_Charge.enc a_0.Charges) a_0.Charges.length), (16, .int .i64 (↑a_0.Charges.length : Int)), (17, .int .i64 (↑(0 : Nat) : Int))] []) .ret (S 32 [(6, .bool false)] []))])))))))))) (by kernel_rfl) (by kernel_rfl) (allOk_append.2 ⟨(batch_Same_p13q a_0 b_1 c1), (allOk_append.2 ⟨(ok1 (batch_Same_L2_does a_0 b_1 (s := (0 : Nat)) (r := Sum.inr (o2)) hl2)), (allOk_append.2 ⟨(batch_Same_p14q a_0 b_1 c21), (allOk_append.2 ⟨(ok1 (batch_Same_L22_does a_0 b_1 (s := (0 : Nat)) (r := Sum.inr (o22)) hl22)), (allOk_append.2 ⟨(batch_Same_p15q a_0 b_1 c37), (allOk_append.2 ⟨(ok1 (batch_Same_L38_does a_0 b_1 (s := (0 : Nat)) (r := Sum.inr (o38)) hl38)), (allOk_append.2 ⟨(batch_Same_p16q a_0 b_1 c57), (allOk_append.2 ⟨(ok1 (batch_Same_L58_does a_0 b_1 (s := (0 : Nat)) (r := Sum.inr (o58)) hl58)), (allOk_append.2 ⟨(batch_Same_p17q a_0 b_1 c73), (ok1 (batch_Same_L74_does a_0 b_1 (s := (0 : Nat)) (r := Sum.inl o74) hl74))⟩)⟩)⟩)⟩)⟩)⟩)⟩)⟩)⟩)
theorem batch_Same_5 (a_0 : Tapi_Result) (b_1 : Tapi_Result) (c1 : (↑a_0.Passages.length : Int) = (↑b_1.Passages.length : Int)) (o2 : Unit) (hl2 : lp (batch_Same_L2_step a_0 b_1) (0 : Nat) = some (Sum.inr (o2))) (c21 : (↑a_0.Rejects.length : Int) = (↑b_1.Rejects.length : Int)) (o22 : Unit) (hl22 : lp (batch_Same_L22_step a_0 b_1) (0 : Nat) = some (Sum.inr (o22))) (c37 : (↑a_0.Trips.length : Int) = (↑b_1.Trips.length : Int)) (o38 : Unit) (hl38 : lp (batch_Same_L38_step a_0 b_1) (0 : Nat) = some (Sum.inr (o38))) (c57 : (↑a_0.Stays.length : Int) = (↑b_1.Stays.length : Int)) (o58 : Unit) (hl58 : lp (batch_Same_L58_step a_0 b_1) (0 : Nat) = some (Sum.inr (o58))) (c73 : (↑a_0.Charges.length : Int) = (↑b_1.Charges.length : Int)) (o74 : Unit) (hl74 : lp (batch_Same_L74_step a_0 b_1) (0 : Nat) = some (Sum.inr (o74))) (c93 : (↑a_0.Exclusions.length : Int) = (↑b_1.Exclusions.length : Int)) (o94 : Unit) (hl94 : lp (batch_Same_L94_step a_0 b_1) (0 : Nat) = some (Sum.inl o94)) : Ret Tryz.prog GT 8 [.agg (Tapi_Result.enc a_0), .agg (Tapi_Result.enc b_1)] (.bool false) [] :=
  Ret.of_view 400 ((batch_Same_h1) ++ ((batch_Same_h2) ++ ((batch_Same_h3 a_0 b_1) ++ ((batch_Same_h4) ++ ((batch_Same_h5 a_0 b_1) ++ ((batch_Same_h6) ++ ((batch_Same_h7 a_0 b_1) ++ ((batch_Same_h8) ++ ((batch_Same_h9 a_0 b_1) ++ ((batch_Same_h10) ++ ((batch_Same_h11 a_0 b_1) ++ ((batch_Same_h12) ++ ((.fcut 0 .ret [(4, .bool false)] [] [] [(0, .lst (fl Tapi_Exclusion.enc a_0.Exclusions) a_0.Exclusions.length), (1, .lst (fl Tapi_Exclusion.enc b_1.Exclusions) b_1.Exclusions.length), (12, .int .i64 (↑a_0.Exclusions.length : Int)), (13, .int .i64 (↑(0 : Nat) : Int))] []) :: (cs 2 [])))))))))))))) [] (ps := ((batch_Same_p13 a_0 b_1) ++ ([(Does Tryz.prog GT 0 (.loop (bodyAt Tryz.prog 74 [1, 1, 0, 1, 0, 0])) (S 32 [(1, .lst (fl Tapi_Passage.enc b_1.Passages) b_1.Passages.length), (2, .fn (.func 24) [] []), (15, .lst (fl Tapi_Passage.enc a_0.Passages) a_0.Passages.length), (16, .int .i64 (↑a_0.Passages.length : Int)), (17, .int .i64 (↑(0 : Nat) : Int))] []) (.exit 0) (S 32 [] []))] ++ ((batch_Same_p14 a_0 b_1) ++ ([(Does Tryz.prog GT 0 (.loop (bodyAt Tryz.prog 31 [1, 1, 0, 1, 0, 0])) (S 26 [(0, .lst (fl Tapi_Reject.enc a_0.Rejects) a_0.Rejects.length), (1, .lst (fl Tapi_Reject.enc b_1.Rejects) b_1.Rejects.length), (12, .int .i64 (↑a_0.Rejects.length : Int)), (13, .int .i64 (↑(0 : Nat) : Int))] []) (.exit 0) (S 26 [] []))] ++ ((batch_Same_p15 a_0 b_1) ++ ([(Does Tryz.prog GT 0 (.loop (bodyAt Tryz.prog 75 [1, 1, 0, 1, 0, 0])) (S 32 [(1, .lst (fl Tapi_Trip.enc b_1.Trips) b_1.Trips.length), (2, .fn (.func 26) [] []), (15, .lst (fl Tapi_Trip.enc a_0.Trips) a_0.Trips.length), (16, .int .i64 (↑a_0.Trips.length : Int)), (17, .int .i64 (↑(0 : Nat) : Int))] []) (.exit 0) (S 32 [] []))] ++ ((batch_Same_p16 a_0 b_1) ++ ([(Does Tryz.prog GT 0 (.loop (bodyAt Tryz.prog 33 [1, 1, 0, 1, 0, 0])) (S 26 [(0, .lst (fl Tapi_Stay.enc a_0.Stays) a_0.Stays.length), (1, .lst (fl Tapi_Stay.enc b_1.Stays) b_1.Stays.length), (12, .int .i64 (↑a_0.Stays.length : Int)), (13, .int .i64 (↑(0 : Nat) : Int))] []) (.exit 0) (S 26 [] []))] ++ ((batch_Same_p17 a_0 b_1) ++ ([(Does Tryz.prog GT 0 (.loop (bodyAt Tryz.prog 76 [1, 1, 0, 1, 0, 0])) (S 32 [(1, .lst (fl Tapi_Charge.enc b_1.Charges) b_1.Charges.length), (2, .fn (.func 28) [] []), (15, .lst (fl Tapi_Charge.enc a_0.Charges) a_0.Charges.length), (16, .int .i64 (↑a_0.Charges.length : Int)), (17, .int .i64 (↑(0 : Nat) : Int))] []) (.exit 0) (S 32 [] []))] ++ ((batch_Same_p18 a_0 b_1) ++ [(Does Tryz.prog GT 0 (.loop (bodyAt Tryz.prog 35 [1, 1, 0, 1, 0, 0])) (S 26 [(0, .lst (fl Tapi_Exclusion.enc a_0.Exclusions) a_0.Exclusions.length), (1, .lst (fl Tapi_Exclusion.enc b_1.Exclusions) b_1.Exclusions.length), (12, .int .i64 (↑a_0.Exclusions.length : Int)), (13, .int .i64 (↑(0 : Nat) : Int))] []) .ret (S 26 [(4, .bool false)] []))])))))))))))) (by kernel_rfl) (by kernel_rfl) (allOk_append.2 ⟨(batch_Same_p13q a_0 b_1 c1), (allOk_append.2 ⟨(ok1 (batch_Same_L2_does a_0 b_1 (s := (0 : Nat)) (r := Sum.inr (o2)) hl2)), (allOk_append.2 ⟨(batch_Same_p14q a_0 b_1 c21), (allOk_append.2 ⟨(ok1 (batch_Same_L22_does a_0 b_1 (s := (0 : Nat)) (r := Sum.inr (o22)) hl22)), (allOk_append.2 ⟨(batch_Same_p15q a_0 b_1 c37), (allOk_append.2 ⟨(ok1 (batch_Same_L38_does a_0 b_1 (s := (0 : Nat)) (r := Sum.inr (o38)) hl38)), (allOk_append.2 ⟨(batch_Same_p16q a_0 b_1 c57), (allOk_append.2 ⟨(ok1 (batch_Same_L58_does a_0 b_1 (s := (0 : Nat)) (r := Sum.inr (o58)) hl58)), (allOk_append.2 ⟨(batch_Same_p17q a_0 b_1 c73), (allOk_append.2 ⟨(ok1 (batch_Same_L74_does a_0 b_1 (s := (0 : Nat)) (r := Sum.inr (o74)) hl74)), (allOk_append.2 ⟨(batch_Same_p18q a_0 b_1 c93), (ok1 (batch_Same_L94_does a_0 b_1 (s := (0 : Nat)) (r := Sum.inl o94) hl94))⟩)⟩)⟩)⟩)⟩)⟩)⟩)⟩)⟩)⟩)⟩)
theorem batch_Same_6 (a_0 : Tapi_Result) (b_1 : Tapi_Result) (c1 : (↑a_0.Passages.length : Int) = (↑b_1.Passages.length : Int)) (o2 : Unit) (hl2 : lp (batch_Same_L2_step a_0 b_1) (0 : Nat) = some (Sum.inr (o2))) (c21 : (↑a_0.Rejects.length : Int) = (↑b_1.Rejects.length : Int)) (o22 : Unit) (hl22 : lp (batch_Same_L22_step a_0 b_1) (0 : Nat) = some (Sum.inr (o22))) (c37 : (↑a_0.Trips.length : Int) = (↑b_1.Trips.length : Int)) (o38 : Unit) (hl38 : lp (batch_Same_L38_step a_0 b_1) (0 : Nat) = some (Sum.inr (o38))) (c57 : (↑a_0.Stays.length : Int) = (↑b_1.Stays.length : Int)) (o58 : Unit) (hl58 : lp (batch_Same_L58_step a_0 b_1) (0 : Nat) = some (Sum.inr (o58))) (c73 : (↑a_0.Charges.length : Int) = (↑b_1.Charges.length : Int)) (o74 : Unit) (hl74 : lp (batch_Same_L74_step a_0 b_1) (0 : Nat) = some (Sum.inr (o74))) (c93 : (↑a_0.Exclusions.length : Int) = (↑b_1.Exclusions.length : Int)) (o94 : Unit) (hl94 : lp (batch_Same_L94_step a_0 b_1) (0 : Nat) = some (Sum.inr (o94))) : Ret Tryz.prog GT 8 [.agg (Tapi_Result.enc a_0), .agg (Tapi_Result.enc b_1)] (.bool true) [] :=
  Ret.of_view 400 ((batch_Same_h1) ++ ((batch_Same_h2) ++ ((batch_Same_h3 a_0 b_1) ++ ((batch_Same_h4) ++ ((batch_Same_h5 a_0 b_1) ++ ((batch_Same_h6) ++ ((batch_Same_h7 a_0 b_1) ++ ((batch_Same_h8) ++ ((batch_Same_h9 a_0 b_1) ++ ((batch_Same_h10) ++ ((batch_Same_h11 a_0 b_1) ++ ((batch_Same_h12) ++ ((.fcut 0 (.exit 0) [] [] [] [(0, .lst (fl Tapi_Exclusion.enc a_0.Exclusions) a_0.Exclusions.length), (1, .lst (fl Tapi_Exclusion.enc b_1.Exclusions) b_1.Exclusions.length), (12, .int .i64 (↑a_0.Exclusions.length : Int)), (13, .int .i64 (↑(0 : Nat) : Int))] []) :: (cs 3 [])))))))))))))) [] (ps := ((batch_Same_p13 a_0 b_1) ++ ([(Does Tryz.prog GT 0 (.loop (bodyAt Tryz.prog 74 [1, 1, 0, 1, 0, 0])) (S 32 [(1, .lst (fl Tapi_Passage.enc b_1.Passages) b_1.Passages.length), (2, .fn (.func 24) [] []), (15, .lst (fl Tapi_Passage.enc a_0.Passages) a_0.Passages.length), (16, .int .i64 (↑a_0.Passages.length : Int)), (17, .int .i64 (↑(0 : Nat) : Int))] []) (.exit 0) (S 32 [] []))] ++ ((batch_Same_p14 a_0 b_1) ++ ([(Does Tryz.prog GT 0 (.loop (bodyAt Tryz.prog 31 [1, 1, 0, 1, 0, 0])) (S 26 [(0, .lst (fl Tapi_Reject.enc a_0.Rejects) a_0.Rejects.length), (1, .lst (fl Tapi_Reject.enc b_1.Rejects) b_1.Rejects.length), (12, .int .i64 (↑a_0.Rejects.length : Int)), (13, .int .i64 (↑(0 : Nat) : Int))] []) (.exit 0) (S 26 [] []))] ++ ((batch_Same_p15 a_0 b_1) ++ ([(Does Tryz.prog GT 0 (.loop (bodyAt Tryz.prog 75 [1, 1, 0, 1, 0, 0])) (S 32 [(1, .lst (fl Tapi_Trip.enc b_1.Trips) b_1.Trips.length), (2, .fn (.func 26) [] []), (15, .lst (fl Tapi_Trip.enc a_0.Trips) a_0.Trips.length), (16, .int .i64 (↑a_0.Trips.length : Int)), (17, .int .i64 (↑(0 : Nat) : Int))] []) (.exit 0) (S 32 [] []))] ++ ((batch_Same_p16 a_0 b_1) ++ ([(Does Tryz.prog GT 0 (.loop (bodyAt Tryz.prog 33 [1, 1, 0, 1, 0, 0])) (S 26 [(0, .lst (fl Tapi_Stay.enc a_0.Stays) a_0.Stays.length), (1, .lst (fl Tapi_Stay.enc b_1.Stays) b_1.Stays.length), (12, .int .i64 (↑a_0.Stays.length : Int)), (13, .int .i64 (↑(0 : Nat) : Int))] []) (.exit 0) (S 26 [] []))] ++ ((batch_Same_p17 a_0 b_1) ++ ([(Does Tryz.prog GT 0 (.loop (bodyAt Tryz.prog 76 [1, 1, 0, 1, 0, 0])) (S 32 [(1, .lst (fl Tapi_Charge.enc b_1.Charges) b_1.Charges.length), (2, .fn (.func 28) [] []), (15, .lst (fl Tapi_Charge.enc a_0.Charges) a_0.Charges.length), (16, .int .i64 (↑a_0.Charges.length : Int)), (17, .int .i64 (↑(0 : Nat) : Int))] []) (.exit 0) (S 32 [] []))] ++ ((batch_Same_p18 a_0 b_1) ++ [(Does Tryz.prog GT 0 (.loop (bodyAt Tryz.prog 35 [1, 1, 0, 1, 0, 0])) (S 26 [(0, .lst (fl Tapi_Exclusion.enc a_0.Exclusions) a_0.Exclusions.length), (1, .lst (fl Tapi_Exclusion.enc b_1.Exclusions) b_1.Exclusions.length), (12, .int .i64 (↑a_0.Exclusions.length : Int)), (13, .int .i64 (↑(0 : Nat) : Int))] []) (.exit 0) (S 26 [] []))])))))))))))) (by kernel_rfl) (by kernel_rfl) (allOk_append.2 ⟨(batch_Same_p13q a_0 b_1 c1), (allOk_append.2 ⟨(ok1 (batch_Same_L2_does a_0 b_1 (s := (0 : Nat)) (r := Sum.inr (o2)) hl2)), (allOk_append.2 ⟨(batch_Same_p14q a_0 b_1 c21), (allOk_append.2 ⟨(ok1 (batch_Same_L22_does a_0 b_1 (s := (0 : Nat)) (r := Sum.inr (o22)) hl22)), (allOk_append.2 ⟨(batch_Same_p15q a_0 b_1 c37), (allOk_append.2 ⟨(ok1 (batch_Same_L38_does a_0 b_1 (s := (0 : Nat)) (r := Sum.inr (o38)) hl38)), (allOk_append.2 ⟨(batch_Same_p16q a_0 b_1 c57), (allOk_append.2 ⟨(ok1 (batch_Same_L58_does a_0 b_1 (s := (0 : Nat)) (r := Sum.inr (o58)) hl58)), (allOk_append.2 ⟨(batch_Same_p17q a_0 b_1 c73), (allOk_append.2 ⟨(ok1 (batch_Same_L74_does a_0 b_1 (s := (0 : Nat)) (r := Sum.inr (o74)) hl74)), (allOk_append.2 ⟨(batch_Same_p18q a_0 b_1 c93), (ok1 (batch_Same_L94_does a_0 b_1 (s := (0 : Nat)) (r := Sum.inr (o94)) hl94))⟩)⟩)⟩)⟩)⟩)⟩)⟩)⟩)⟩)⟩)⟩)
theorem batch_Same_7 (a_0 : Tapi_Result) (b_1 : Tapi_Result) (c1 : (↑a_0.Passages.length : Int) = (↑b_1.Passages.length : Int)) (o2 : Unit) (hl2 : lp (batch_Same_L2_step a_0 b_1) (0 : Nat) = some (Sum.inr (o2))) (c21 : (↑a_0.Rejects.length : Int) = (↑b_1.Rejects.length : Int)) (o22 : Unit) (hl22 : lp (batch_Same_L22_step a_0 b_1) (0 : Nat) = some (Sum.inr (o22))) (c37 : (↑a_0.Trips.length : Int) = (↑b_1.Trips.length : Int)) (o38 : Unit) (hl38 : lp (batch_Same_L38_step a_0 b_1) (0 : Nat) = some (Sum.inr (o38))) (c57 : (↑a_0.Stays.length : Int) = (↑b_1.Stays.length : Int)) (o58 : Unit) (hl58 : lp (batch_Same_L58_step a_0 b_1) (0 : Nat) = some (Sum.inr (o58))) (c73 : (↑a_0.Charges.length : Int) = (↑b_1.Charges.length : Int)) (o74 : Unit) (hl74 : lp (batch_Same_L74_step a_0 b_1) (0 : Nat) = some (Sum.inr (o74))) (c93 : ¬ ((↑a_0.Exclusions.length : Int) = (↑b_1.Exclusions.length : Int))) : Ret Tryz.prog GT 8 [.agg (Tapi_Result.enc a_0), .agg (Tapi_Result.enc b_1)] (.bool false) [] :=
  Ret.of_view 400 ((batch_Same_h1) ++ ((batch_Same_h2) ++ ((batch_Same_h3 a_0 b_1) ++ ((batch_Same_h4) ++ ((batch_Same_h5 a_0 b_1) ++ ((batch_Same_h6) ++ ((batch_Same_h7 a_0 b_1) ++ ((batch_Same_h8) ++ ((batch_Same_h9 a_0 b_1) ++ ((batch_Same_h10) ++ ((batch_Same_h11 a_0 b_1) ++ ((.br true) :: (cs 3 []))))))))))))) [] (ps := ((batch_Same_p13 a_0 b_1) ++ ([(Does Tryz.prog GT 0 (.loop (bodyAt Tryz.prog 74 [1, 1, 0, 1, 0, 0])) (S 32 [(1, .lst (fl Tapi_Passage.enc b_1.Passages) b_1.Passages.length), (2, .fn (.func 24) [] []), (15, .lst (fl Tapi_Passage.enc a_0.Passages) a_0.Passages.length), (16, .int .i64 (↑a_0.Passages.length : Int)), (17, .int .i64 (↑(0 : Nat) : Int))] []) (.exit 0) (S 32 [] []))] ++ ((batch_Same_p14 a_0 b_1) ++ ([(Does Tryz.prog GT 0 (.loop (bodyAt Tryz.prog 31 [1, 1, 0, 1, 0, 0])) (S 26 [(0, .lst (fl Tapi_Reject.enc a_0.Rejects) a_0.Rejects.length), (1, .lst (fl Tapi_Reject.enc b_1.Rejects) b_1.Rejects.length), (12, .int .i64 (↑a_0.Rejects.length : Int)), (13, .int .i64 (↑(0 : Nat) : Int))] []) (.exit 0) (S 26 [] []))] ++ ((batch_Same_p15 a_0 b_1) ++ ([(Does Tryz.prog GT 0 (.loop (bodyAt Tryz.prog 75 [1, 1, 0, 1, 0, 0])) (S 32 [(1, .lst (fl Tapi_Trip.enc b_1.Trips) b_1.Trips.length), (2, .fn (.func 26) [] []), (15, .lst (fl Tapi_Trip.enc a_0.Trips) a_0.Trips.length), (16, .int .i64 (↑a_0.Trips.length : Int)), (17, .int .i64 (↑(0 : Nat) : Int))] []) (.exit 0) (S 32 [] []))] ++ ((batch_Same_p16 a_0 b_1) ++ ([(Does Tryz.prog GT 0 (.loop (bodyAt Tryz.prog 33 [1, 1, 0, 1, 0, 0])) (S 26 [(0, .lst (fl Tapi_Stay.enc a_0.Stays) a_0.Stays.length), (1, .lst (fl Tapi_Stay.enc b_1.Stays) b_1.Stays.length), (12, .int .i64 (↑a_0.Stays.length : Int)), (13, .int .i64 (↑(0 : Nat) : Int))] []) (.exit 0) (S 26 [] []))] ++ ((batch_Same_p17 a_0 b_1) ++ ([(Does Tryz.prog GT 0 (.loop (bodyAt Tryz.prog 76 [1, 1, 0, 1, 0, 0])) (S 32 [(1, .lst (fl Tapi_Charge.enc b_1.Charges) b_1.Charges.length), (2, .fn (.func 28) [] []), (15, .lst (fl Tapi_Charge.enc a_0.Charges) a_0.Charges.length), (16, .int .i64 (↑a_0.Charges.length : Int)), (17, .int .i64 (↑(0 : Nat) : Int))] []) (.exit 0) (S 32 [] []))] ++ [((!((↑a_0.Exclusions.length : Int) == (↑b_1.Exclusions.length : Int))) = true)]))))))))))) (by kernel_rfl) (by kernel_rfl) (allOk_append.2 ⟨(batch_Same_p13q a_0 b_1 c1), (allOk_append.2 ⟨(ok1 (batch_Same_L2_does a_0 b_1 (s := (0 : Nat)) (r := Sum.inr (o2)) hl2)), (allOk_append.2 ⟨(batch_Same_p14q a_0 b_1 c21), (allOk_append.2 ⟨(ok1 (batch_Same_L22_does a_0 b_1 (s := (0 : Nat)) (r := Sum.inr (o22)) hl22)), (allOk_append.2 ⟨(batch_Same_p15q a_0 b_1 c37), (allOk_append.2 ⟨(ok1 (batch_Same_L38_does a_0 b_1 (s := (0 : Nat)) (r := Sum.inr (o38)) hl38)), (allOk_append.2 ⟨(batch_Same_p16q a_0 b_1 c57), (allOk_append.2 ⟨(ok1 (batch_Same_L58_does a_0 b_1 (s := (0 : Nat)) (r := Sum.inr (o58)) hl58)), (allOk_append.2 ⟨(batch_Same_p17q a_0 b_1 c73), (allOk_append.2 ⟨(ok1 (batch_Same_L74_does a_0 b_1 (s := (0 : Nat)) (r := Sum.inr (o74)) hl74)), (ok1 (not_t (beq_f c93)))⟩)⟩)⟩)⟩)⟩)⟩)⟩)⟩)⟩)⟩)
theorem batch_Same_8 (a_0 : Tapi_Result) (b_1 : Tapi_Result) (c1 : (↑a_0.Passages.length : Int) = (↑b_1.Passages.length : Int)) (o2 : Unit) (hl2 : lp (batch_Same_L2_step a_0 b_1) (0 : Nat) = some (Sum.inr (o2))) (c21 : (↑a_0.Rejects.length : Int) = (↑b_1.Rejects.length : Int)) (o22 : Unit) (hl22 : lp (batch_Same_L22_step a_0 b_1) (0 : Nat) = some (Sum.inr (o22))) (c37 : (↑a_0.Trips.length : Int) = (↑b_1.Trips.length : Int)) (o38 : Unit) (hl38 : lp (batch_Same_L38_step a_0 b_1) (0 : Nat) = some (Sum.inr (o38))) (c57 : (↑a_0.Stays.length : Int) = (↑b_1.Stays.length : Int)) (o58 : Unit) (hl58 : lp (batch_Same_L58_step a_0 b_1) (0 : Nat) = some (Sum.inr (o58))) (c73 : ¬ ((↑a_0.Charges.length : Int) = (↑b_1.Charges.length : Int))) : Ret Tryz.prog GT 8 [.agg (Tapi_Result.enc a_0), .agg (Tapi_Result.enc b_1)] (.bool false) [] :=
  Ret.of_view 400 ((batch_Same_h1) ++ ((batch_Same_h2) ++ ((batch_Same_h3 a_0 b_1) ++ ((batch_Same_h4) ++ ((batch_Same_h5 a_0 b_1) ++ ((batch_Same_h6) ++ ((batch_Same_h7 a_0 b_1) ++ ((batch_Same_h8) ++ ((batch_Same_h9 a_0 b_1) ++ ((.br true) :: (cs 11 []))))))))))) [] (ps := ((batch_Same_p13 a_0 b_1) ++ ([(Does Tryz.prog GT 0 (.loop (bodyAt Tryz.prog 74 [1, 1, 0, 1, 0, 0])) (S 32 [(1, .lst (fl Tapi_Passage.enc b_1.Passages) b_1.Passages.length), (2, .fn (.func 24) [] []), (15, .lst (fl Tapi_Passage.enc a_0.Passages) a_0.Passages.length), (16, .int .i64 (↑a_0.Passages.length : Int)), (17, .int .i64 (↑(0 : Nat) : Int))] []) (.exit 0) (S 32 [] []))] ++ ((batch_Same_p14 a_0 b_1) ++ ([(Does Tryz.prog GT 0 (.loop (bodyAt Tryz.prog 31 [1, 1, 0, 1, 0, 0])) (S 26 [(0, .lst (fl Tapi_Reject.enc a_0.Rejects) a_0.Rejects.length), (1, .lst (fl Tapi_Reject.enc b_1.Rejects) b_1.Rejects.length), (12, .int .i64 (↑a_0.Rejects.length : Int)), (13, .int .i64 (↑(0 : Nat) : Int))] []) (.exit 0) (S 26 [] []))] ++ ((batch_Same_p15 a_0 b_1) ++ ([(Does Tryz.prog GT 0 (.loop (bodyAt Tryz.prog 75 [1, 1, 0, 1, 0, 0])) (S 32 [(1, .lst (fl Tapi_Trip.enc b_1.Trips) b_1.Trips.length), (2, .fn (.func 26) [] []), (15, .lst (fl Tapi_Trip.enc a_0.Trips) a_0.Trips.length), (16, .int .i64 (↑a_0.Trips.length : Int)), (17, .int .i64 (↑(0 : Nat) : Int))] []) (.exit 0) (S 32 [] []))] ++ ((batch_Same_p16 a_0 b_1) ++ ([(Does Tryz.prog GT 0 (.loop (bodyAt Tryz.prog 33 [1, 1, 0, 1, 0, 0])) (S 26 [(0, .lst (fl Tapi_Stay.enc a_0.Stays) a_0.Stays.length), (1, .lst (fl Tapi_Stay.enc b_1.Stays) b_1.Stays.length), (12, .int .i64 (↑a_0.Stays.length : Int)), (13, .int .i64 (↑(0 : Nat) : Int))] []) (.exit 0) (S 26 [] []))] ++ [((!((↑a_0.Charges.length : Int) == (↑b_1.Charges.length : Int))) = true)]))))))))) (by kernel_rfl) (by kernel_rfl) (allOk_append.2 ⟨(batch_Same_p13q a_0 b_1 c1), (allOk_append.2 ⟨(ok1 (batch_Same_L2_does a_0 b_1 (s := (0 : Nat)) (r := Sum.inr (o2)) hl2)), (allOk_append.2 ⟨(batch_Same_p14q a_0 b_1 c21), (allOk_append.2 ⟨(ok1 (batch_Same_L22_does a_0 b_1 (s := (0 : Nat)) (r := Sum.inr (o22)) hl22)), (allOk_append.2 ⟨(batch_Same_p15q a_0 b_1 c37), (allOk_append.2 ⟨(ok1 (batch_Same_L38_does a_0 b_1 (s := (0 : Nat)) (r := Sum.inr (o38)) hl38)), (allOk_append.2 ⟨(batch_Same_p16q a_0 b_1 c57), (allOk_append.2 ⟨(ok1 (batch_Same_L58_does a_0 b_1 (s := (0 : Nat)) (r := Sum.inr (o58)) hl58)), (ok1 (not_t (beq_f c73)))⟩)⟩)⟩)⟩)⟩)⟩)⟩)⟩)
theorem batch_Same_9 (a_0 : Tapi_Result) (b_1 : Tapi_Result) (c1 : (↑a_0.Passages.length : Int) = (↑b_1.Passages.length : Int)) (o2 : Unit) (hl2 : lp (batch_Same_L2_step a_0 b_1) (0 : Nat) = some (Sum.inr (o2))) (c21 : (↑a_0.Rejects.length : Int) = (↑b_1.Rejects.length : Int)) (o22 : Unit) (hl22 : lp (batch_Same_L22_step a_0 b_1) (0 : Nat) = some (Sum.inr (o22))) (c37 : (↑a_0.Trips.length : Int) = (↑b_1.Trips.length : Int)) (o38 : Unit) (hl38 : lp (batch_Same_L38_step a_0 b_1) (0 : Nat) = some (Sum.inr (o38))) (c57 : ¬ ((↑a_0.Stays.length : Int) = (↑b_1.Stays.length : Int))) : Ret Tryz.prog GT 8 [.agg (Tapi_Result.enc a_0), .agg (Tapi_Result.enc b_1)] (.bool false) [] :=
  Ret.of_view 400 ((batch_Same_h1) ++ ((batch_Same_h2) ++ ((batch_Same_h3 a_0 b_1) ++ ((batch_Same_h4) ++ ((batch_Same_h5 a_0 b_1) ++ ((batch_Same_h6) ++ ((batch_Same_h7 a_0 b_1) ++ ((.br true) :: (cs 18 []))))))))) [] (ps := ((batch_Same_p13 a_0 b_1) ++ ([(Does Tryz.prog GT 0 (.loop (bodyAt Tryz.prog 74 [1, 1, 0, 1, 0, 0])) (S 32 [(1, .lst (fl Tapi_Passage.enc b_1.Passages) b_1.Passages.length), (2, .fn (.func 24) [] []), (15, .lst (fl Tapi_Passage.enc a_0.Passages) a_0.Passages.length), (16, .int .i64 (↑a_0.Passages.length : Int)), (17, .int .i64 (↑(0 : Nat) : Int))] []) (.exit 0) (S 32 [] []))] ++ ((batch_Same_p14 a_0 b_1) ++ ([(Does Tryz.prog GT 0 (.loop (bodyAt Tryz.prog 31 [1, 1, 0, 1, 0, 0])) (S 26 [(0, .lst (fl Tapi_Reject.enc a_0.Rejects) a_0.Rejects.length), (1, .lst (fl Tapi_Reject.enc b_1.Rejects) b_1.Rejects.length), (12, .int .i64 (↑a_0.Rejects.length : Int)), (13, .int .i64 (↑(0 : Nat) : Int))] []) (.exit 0) (S 26 [] []))] ++ ((batch_Same_p15 a_0 b_1) ++ ([(Does Tryz.prog GT 0 (.loop (bodyAt Tryz.prog 75 [1, 1, 0, 1, 0, 0])) (S 32 [(1, .lst (fl Tapi_Trip.enc b_1.Trips) b_1.Trips.length), (2, .fn (.func 26) [] []), (15, .lst (fl Tapi_Trip.enc a_0.Trips) a_0.Trips.length), (16, .int .i64 (↑a_0.Trips.length : Int)), (17, .int .i64 (↑(0 : Nat) : Int))] []) (.exit 0) (S 32 [] []))] ++ [((!((↑a_0.Stays.length : Int) == (↑b_1.Stays.length : Int))) = true)]))))))) (by kernel_rfl) (by kernel_rfl) (allOk_append.2 ⟨(batch_Same_p13q a_0 b_1 c1), (allOk_append.2 ⟨(ok1 (batch_Same_L2_does a_0 b_1 (s := (0 : Nat)) (r := Sum.inr (o2)) hl2)), (allOk_append.2 ⟨(batch_Same_p14q a_0 b_1 c21), (allOk_append.2 ⟨(ok1 (batch_Same_L22_does a_0 b_1 (s := (0 : Nat)) (r := Sum.inr (o22)) hl22)), (allOk_append.2 ⟨(batch_Same_p15q a_0 b_1 c37), (allOk_append.2 ⟨(ok1 (batch_Same_L38_does a_0 b_1 (s := (0 : Nat)) (r := Sum.inr (o38)) hl38)), (ok1 (not_t (beq_f c57)))⟩)⟩)⟩)⟩)⟩)⟩)
theorem batch_Same_10 (a_0 : Tapi_Result) (b_1 : Tapi_Result) (c1 : (↑a_0.Passages.length : Int) = (↑b_1.Passages.length : Int)) (o2 : Unit) (hl2 : lp (batch_Same_L2_step a_0 b_1) (0 : Nat) = some (Sum.inr (o2))) (c21 : (↑a_0.Rejects.length : Int) = (↑b_1.Rejects.length : Int)) (o22 : Unit) (hl22 : lp (batch_Same_L22_step a_0 b_1) (0 : Nat) = some (Sum.inr (o22))) (c37 : ¬ ((↑a_0.Trips.length : Int) = (↑b_1.Trips.length : Int))) : Ret Tryz.prog GT 8 [.agg (Tapi_Result.enc a_0), .agg (Tapi_Result.enc b_1)] (.bool false) [] :=
  Ret.of_view 400 ((batch_Same_h1) ++ ((batch_Same_h2) ++ ((batch_Same_h3 a_0 b_1) ++ ((batch_Same_h4) ++ ((batch_Same_h5 a_0 b_1) ++ ((.br true) :: (cs 26 []))))))) [] (ps := ((batch_Same_p13 a_0 b_1) ++ ([(Does Tryz.prog GT 0 (.loop (bodyAt Tryz.prog 74 [1, 1, 0, 1, 0, 0])) (S 32 [(1, .lst (fl Tapi_Passage.enc b_1.Passages) b_1.Passages.length), (2, .fn (.func 24) [] []), (15, .lst (fl Tapi_Passage.enc a_0.Passages) a_0.Passages.length), (16, .int .i64 (↑a_0.Passages.length : Int)), (17, .int .i64 (↑(0 : Nat) : Int))] []) (.exit 0) (S 32 [] []))] ++ ((batch_Same_p14 a_0 b_1) ++ ([(Does Tryz.prog GT 0 (.loop (bodyAt Tryz.prog 31 [1, 1, 0, 1, 0, 0])) (S 26 [(0, .lst (fl Tapi_Reject.enc a_0.Rejects) a_0.Rejects.length), (1, .lst (fl Tapi_Reject.enc b_1.Rejects) b_1.Rejects.length), (12, .int .i64 (↑a_0.Rejects.length : Int)), (13, .int .i64 (↑(0 : Nat) : Int))] []) (.exit 0) (S 26 [] []))] ++ [((!((↑a_0.Trips.length : Int) == (↑b_1.Trips.length : Int))) = true)]))))) (by kernel_rfl) (by kernel_rfl) (allOk_append.2 ⟨(batch_Same_p13q a_0 b_1 c1), (allOk_append.2 ⟨(ok1 (batch_Same_L2_does a_0 b_1 (s := (0 : Nat)) (r := Sum.inr (o2)) hl2)), (allOk_append.2 ⟨(batch_Same_p14q a_0 b_1 c21), (allOk_append.2 ⟨(ok1 (batch_Same_L22_does a_0 b_1 (s := (0 : Nat)) (r := Sum.inr (o22)) hl22)), (ok1 (not_t (beq_f c37)))⟩)⟩)⟩)⟩)
theorem batch_Same_11 (a_0 : Tapi_Result) (b_1 : Tapi_Result) (c1 : (↑a_0.Passages.length : Int) = (↑b_1.Passages.length : Int)) (o2 : Unit) (hl2 : lp (batch_Same_L2_step a_0 b_1) (0 : Nat) = some (Sum.inr (o2))) (c21 : ¬ ((↑a_0.Rejects.length : Int) = (↑b_1.Rejects.length : Int))) : Ret Tryz.prog GT 8 [.agg (Tapi_Result.enc a_0), .agg (Tapi_Result.enc b_1)] (.bool false) [] :=
  Ret.of_view 400 ((batch_Same_h1) ++ ((batch_Same_h2) ++ ((batch_Same_h3 a_0 b_1) ++ ((.br true) :: (cs 33 []))))) [] (ps := ((batch_Same_p13 a_0 b_1) ++ ([(Does Tryz.prog GT 0 (.loop (bodyAt Tryz.prog 74 [1, 1, 0, 1, 0, 0])) (S 32 [(1, .lst (fl Tapi_Passage.enc b_1.Passages) b_1.Passages.length), (2, .fn (.func 24) [] []), (15, .lst (fl Tapi_Passage.enc a_0.Passages) a_0.Passages.length), (16, .int .i64 (↑a_0.Passages.length : Int)), (17, .int .i64 (↑(0 : Nat) : Int))] []) (.exit 0) (S 32 [] []))] ++ [((!((↑a_0.Rejects.length : Int) == (↑b_1.Rejects.length : Int))) = true)]))) (by kernel_rfl) (by kernel_rfl) (allOk_append.2 ⟨(batch_Same_p13q a_0 b_1 c1), (allOk_append.2 ⟨(ok1 (batch_Same_L2_does a_0 b_1 (s := (0 : Nat)) (r := Sum.inr (o2)) hl2)), (ok1 (not_t (beq_f c21)))⟩)⟩)
theorem batch_Same_12 (a_0 : Tapi_Result) (b_1 : Tapi_Result) (c1 : ¬ ((↑a_0.Passages.length : Int) = (↑b_1.Passages.length : Int))) : Ret Tryz.prog GT 8 [.agg (Tapi_Result.enc a_0), .agg (Tapi_Result.enc b_1)] (.bool false) [] :=
  Ret.of_view 400 ((batch_Same_h1) ++ ((.br true) :: (cs 40 []))) [] (ps := [((!((↑a_0.Passages.length : Int) == (↑b_1.Passages.length : Int))) = true)]) (by kernel_rfl) (by kernel_rfl) (ok1 (not_t (beq_f c1)))
theorem batch_Same_ret (a_0 : Tapi_Result) (b_1 : Tapi_Result) (r : Bool) (h : batch_Same a_0 b_1 = some r) : Ret Tryz.prog GT 8 [.agg (Tapi_Result.enc a_0), .agg (Tapi_Result.enc b_1)] (.bool r) [] := by
  unfold batch_Same at h
  rcases ite_some h with ⟨c1, h⟩ | ⟨c1, h⟩
  · obtain ⟨qq, hl2, h⟩ := bind_some h
    rcases qq with o2 | o2
    · dsimp only at h
      simp only [Option.some.injEq] at h
      subst h
      exact batch_Same_0 a_0 b_1 c1 o2 hl2
    · dsimp only at h
      rcases ite_some h with ⟨c21, h⟩ | ⟨c21, h⟩
      · obtain ⟨qq, hl22, h⟩ := bind_some h
        rcases qq with o22 | o22
        · dsimp only at h
          simp only [Option.some.injEq] at h
          subst h
          exact batch_Same_1 a_0 b_1 c1 o2 hl2 c21 o22 hl22
        · dsimp only at h
          rcases ite_some h with ⟨c37, h⟩ | ⟨c37, h⟩
          · obtain ⟨qq, hl38, h⟩ := bind_some h
            rcases qq with o38 | o38
            · dsimp only at h
              simp only [Option.some.injEq] at h
              subst h
              exact batch_Same_2 a_0 b_1 c1 o2 hl2 c21 o22 hl22 c37 o38 hl38
            · dsimp only at h
              rcases ite_some h with ⟨c57, h⟩ | ⟨c57, h⟩
              · obtain ⟨qq, hl58, h⟩ := bind_some h
                rcases qq with o58 | o58
                · dsimp only at h
                  simp only [Option.some.injEq] at h
                  subst h
                  exact batch_Same_3 a_0 b_1 c1 o2 hl2 c21 o22 hl22 c37 o38 hl38 c57 o58 hl58
                · dsimp only at h
                  rcases ite_some h with ⟨c73, h⟩ | ⟨c73, h⟩
                  · obtain ⟨qq, hl74, h⟩ := bind_some h
                    rcases qq with o74 | o74
                    · dsimp only at h
                      simp only [Option.some.injEq] at h
                      subst h
                      exact batch_Same_4 a_0 b_1 c1 o2 hl2 c21 o22 hl22 c37 o38 hl38 c57 o58 hl58 c73 o74 hl74
                    · dsimp only at h
                      rcases ite_some h with ⟨c93, h⟩ | ⟨c93, h⟩
                      · obtain ⟨qq, hl94, h⟩ := bind_some h
                        rcases qq with o94 | o94
                        · dsimp only at h
                          simp only [Option.some.injEq] at h
                          subst h
                          exact batch_Same_5 a_0 b_1 c1 o2 hl2 c21 o22 hl22 c37 o38 hl38 c57 o58 hl58 c73 o74 hl74 c93 o94 hl94
                        · dsimp only at h
                          simp only [Option.some.injEq] at h
                          subst h
                          exact batch_Same_6 a_0 b_1 c1 o2 hl2 c21 o22 hl22 c37 o38 hl38 c57 o58 hl58 c73 o74 hl74 c93 o94 hl94
                      · simp only [Option.some.injEq] at h
                        subst h
                        exact batch_Same_7 a_0 b_1 c1 o2 hl2 c21 o22 hl22 c37 o38 hl38 c57 o58 hl58 c73 o74 hl74 c93
                  · simp only [Option.some.injEq] at h
                    subst h
                    exact batch_Same_8 a_0 b_1 c1 o2 hl2 c21 o22 hl22 c37 o38 hl38 c57 o58 hl58 c73
              · simp only [Option.some.injEq] at h
                subst h
                exact batch_Same_9 a_0 b_1 c1 o2 hl2 c21 o22 hl22 c37 o38 hl38 c57
          · simp only [Option.some.injEq] at h
            subst h
            exact batch_Same_10 a_0 b_1 c1 o2 hl2 c21 o22 hl22 c37
      · simp only [Option.some.injEq] at h
        subst h
        exact batch_Same_11 a_0 b_1 c1 o2 hl2 c21
  · simp only [Option.some.injEq] at h
    subst h
    exact batch_Same_12 a_0 b_1 c1
end Go.Proofs.YtnlaiahcemckkaaGreatDoor.Av
