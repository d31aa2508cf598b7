import Derived.Test.YtnlaiahcemckkaaGreatDoorAvZ
import Derived.Test.YtnlaiahcemckkaaGreatDoorProg
import Derived.Tactics
import Derived.Test.YtnlaiahcemckkaaGreatDoorSrD
set_option linter.unusedVariables false
set_option linter.unusedSimpArgs false
set_option maxHeartbeats 4000000
namespace Go.Proofs.YtnlaiahcemckkaaGreatDoor.Av
open Go Go.Proofs
structure Tapi_Stop where
  Point : (List UInt8)
  Time : Int
  Passage : (List UInt8)
def Tapi_Stop.enc (x : Tapi_Stop) : List AV := [.str x.Point, .int .i64 x.Time, .str x.Passage]
structure Tapi_Trip where
  ID : (List UInt8)
  Vehicle : (List UInt8)
  System : (List UInt8)
  Class : Int
  Stops : (List Tapi_Stop)
def Tapi_Trip.enc (x : Tapi_Trip) : List AV := [.str x.ID, .str x.Vehicle, .str x.System, .int .i64 x.Class, .lst (fl Tapi_Stop.enc x.Stops) x.Stops.length]
noncomputable def text_Format (n_0 : Int) : Option (List UInt8) :=
  (itoaF n_0).bind fun r1 =>
  some r1
theorem text_Format_0 (n_0 : Int) (r1 : (List UInt8)) (h2 : itoaF n_0 = some r1) : Ret Tryz.prog GT 19 [.int .i64 n_0] (.str r1) [] :=
  Ret.of_view 400 (cs 2 [.ret none [.int .i64 n_0] (.str r1) [], .op none .c]) [] (ps := [((.int .i64 n_0 : AV) = .int .i64 n_0), (Ret Tryz.prog GT 71 [.int .i64 n_0] (.str r1) [])]) (by kernel_rfl) (by kernel_rfl) ⟨rfl, ok1 (itoa_ret n_0 r1 h2)⟩
theorem text_Format_ret (n_0 : Int) (r : (List UInt8)) (h : text_Format n_0 = some r) : Ret Tryz.prog GT 19 [.int .i64 n_0] (.str r) [] := by
  unfold text_Format at h
  obtain ⟨r1, h2, h⟩ := bind_some h
  simp only [Option.some.injEq] at h
  subst h
  exact text_Format_0 n_0 r1 h2
noncomputable def trip_Passages_L1_step (x_0 : Tapi_Trip) : (Nat × (List (List UInt8))) → Option ((Nat × (List (List UInt8))) ⊕ (List (List UInt8)))
  | (k9, b1) =>
    if (↑k9 : Int) < (↑x_0.Stops.length : Int) then
      (x_0.Stops[k9]?).bind fun x10 =>
      if x10.Passage = [] then
        if InR .i64 ((↑k9 : Int) + 1) then
          some (Sum.inl ((k9 + 1), b1))
        else none
      else
        if b1.length + 1 ≤ 8796093022000 then
          if InR .i64 ((↑k9 : Int) + 1) then
            some (Sum.inl ((k9 + 1), (b1 ++ [x10.Passage])))
          else none
        else none
    else
      some (Sum.inr b1)
def trip_Passages_L1_H (x_0 : Tapi_Trip) : (Nat × (List (List UInt8))) → St := fun (s : (Nat × (List (List UInt8)))) => S 23 [(3, .vec 0 s.2.length 1), (7, .lst (fl Tapi_Stop.enc x_0.Stops) x_0.Stops.length), (8, .int .i64 (↑x_0.Stops.length : Int)), (9, .int .i64 (↑s.1 : Int))] [(bV (fl e_str s.2) 9)]
def trip_Passages_L1_h1 (k9 : Nat) (x10 : Tapi_Stop) : List CH := ((.br true) :: (.op none (.i k9)) :: (.op none (.v [.str x10.Point, .int .i64 x10.Time, .str x10.Passage])) :: (cs 4 [.op none .a]))
def trip_Passages_L1_p2 (x_0 : Tapi_Trip) (k9 : Nat) (x10 : Tapi_Stop) : List Prop := [((decide ((↑k9 : Int) < (↑x_0.Stops.length : Int))) = true), ((↑k9 : Int) = ((k9 : Nat) : Int) ∧ k9 < x_0.Stops.length), ((fl Tapi_Stop.enc x_0.Stops) ≠ []), (sub (fl Tapi_Stop.enc x_0.Stops) (k9 * 3) 3 = [.str x10.Point, .int .i64 x10.Time, .str x10.Passage])]
theorem trip_Passages_L1_p2q (x_0 : Tapi_Trip) (k9 : Nat) (c9 : (↑k9 : Int) < (↑x_0.Stops.length : Int)) (x10 : Tapi_Stop) (h11 : x_0.Stops[k9]? = some x10) : allOk (trip_Passages_L1_p2 x_0 k9 x10) := ⟨(decide_eq_true c9), ⟨rfl, get_lt h11⟩, (fl_ne (f := Tapi_Stop.enc) (z := 2) (fun _ => rfl) h11), ok1 (fl_sub0 (f := Tapi_Stop.enc) (z := 3) (j := k9) (fun _ => rfl) h11 rfl)⟩
theorem trip_Passages_L1_0 (x_0 : Tapi_Trip) (k9 : Nat) (b1 : (List (List UInt8))) (c9 : (↑k9 : Int) < (↑x_0.Stops.length : Int)) (x10 : Tapi_Stop) (h11 : x_0.Stops[k9]? = some x10) (c12 : x10.Passage = []) (h13 : InR .i64 ((↑k9 : Int) + 1)) : Does Tryz.prog GT 0 (bodyAt Tryz.prog 18 [1, 1, 0, 1, 0, 0]) (trip_Passages_L1_H x_0 (k9, b1)) .normal (S 23 [(3, .vec 0 b1.length 1), (7, .lst (fl Tapi_Stop.enc x_0.Stops) x_0.Stops.length), (8, .int .i64 (↑x_0.Stops.length : Int)), (9, .int .i64 ((↑k9 : Int) + 1))] [(bV (fl e_str b1) 9)]) :=
  Does.of_viewM 0 400 ([.op none .a] ++ ((trip_Passages_L1_h1 k9 x10) ++ [.br false, .op none .w, .op none .c])) [0] (ps := ((trip_Passages_L1_p2 x_0 k9 x10) ++ [((!(x10.Passage == [])) = false), (IntKind.min .i64 ≤ ((↑k9 : Int) + 1) ∧ ((↑k9 : Int) + 1) ≤ IntKind.max .i64)])) (by kernel_rfl) (by kernel_rfl) (allOk_append.2 ⟨(trip_Passages_L1_p2q x_0 k9 c9 x10 h11), ⟨(not_f (beq_t c12)), ok1 h13⟩⟩)
theorem trip_Passages_L1_1 (x_0 : Tapi_Trip) (k9 : Nat) (b1 : (List (List UInt8))) (c9 : (↑k9 : Int) < (↑x_0.Stops.length : Int)) (x10 : Tapi_Stop) (h11 : x_0.Stops[k9]? = some x10) (c12 : ¬ (x10.Passage = [])) (h14 : b1.length + 1 ≤ 8796093022000) (h15 : InR .i64 ((↑k9 : Int) + 1)) : Does Tryz.prog GT 0 (bodyAt Tryz.prog 18 [1, 1, 0, 1, 0, 0]) (trip_Passages_L1_H x_0 (k9, b1)) .normal (S 23 [(3, .vec 0 ((b1 ++ [x10.Passage]).length) 1), (7, .lst (fl Tapi_Stop.enc x_0.Stops) x_0.Stops.length), (8, .int .i64 (↑x_0.Stops.length : Int)), (9, .int .i64 ((↑k9 : Int) + 1))] [(bV (fl e_str (b1 ++ [x10.Passage])) 9)]) :=
  Does.of_viewM 0 400 ([.op none .a] ++ ((trip_Passages_L1_h1 k9 x10) ++ ((.br true) :: (cs 4 [.op none (.ap 4), .tr (.eqc 3 (fl e_str (b1 ++ [x10.Passage]))), .tr (.eqt (.t 20) (.vec 3 ((b1 ++ [x10.Passage]).length) 1)), .op none .c, .op none .w, .op none .c])))) [3] (ps := ((trip_Passages_L1_p2 x_0 k9 x10) ++ [((!(x10.Passage == [])) = true), (0 + 1 ≤ List.length ([.str x10.Passage] : List AV)), (List.length ((fl e_str b1) : List AV) = b1.length), (List.all ([.str x10.Passage] : List AV) AV.one = true), (b1.length + 1 ≤ 8796093022000), ((fl e_str b1) ++ [.str x10.Passage] = (fl e_str (b1 ++ [x10.Passage]))), ((.vec 3 (b1.length + 1) 1 : AV) = .vec 3 ((b1 ++ [x10.Passage]).length) 1), (IntKind.min .i64 ≤ ((↑k9 : Int) + 1) ∧ ((↑k9 : Int) + 1) ≤ IntKind.max .i64)])) (by kernel_rfl) (by kernel_rfl) (allOk_append.2 ⟨(trip_Passages_L1_p2q x_0 k9 c9 x10 h11), ⟨(not_t (beq_f c12)), (Nat.le_of_ble_eq_true rfl), (fl_length1 (f := e_str) (fun _ => rfl) _), rfl, h14, (fl_snoc rfl), (by simp <;> omega), ok1 h15⟩⟩)
theorem trip_Passages_L1_2 (x_0 : Tapi_Trip) (k9 : Nat) (b1 : (List (List UInt8))) (c9 : ¬ ((↑k9 : Int) < (↑x_0.Stops.length : Int))) : Does Tryz.prog GT 0 (bodyAt Tryz.prog 18 [1, 1, 0, 1, 0, 0]) (trip_Passages_L1_H x_0 (k9, b1)) (.exit 0) (S 23 [(3, .vec 0 b1.length 1)] [(bV (fl e_str b1) 9)]) :=
  Does.of_viewM 0 400 ([.op none .a] ++ [.br false]) [0] (ps := [((decide ((↑k9 : Int) < (↑x_0.Stops.length : Int))) = false)]) (by kernel_rfl) (by kernel_rfl) (ok1 (decide_eq_false c9))
def trip_Passages_L1_X (x_0 : Tapi_Trip) : (List (List UInt8)) → AEx := fun o => (.exit 0)
def trip_Passages_L1_E (x_0 : Tapi_Trip) : (List (List UInt8)) → St := fun o => S 23 [(3, .vec 0 o.length 1)] [(bV (fl e_str o) 9)]
theorem trip_Passages_L1_does (x_0 : Tapi_Trip) {s : (Nat × (List (List UInt8)))} {r : (List (List UInt8))} (h : lp (trip_Passages_L1_step x_0) s = some r) : Does Tryz.prog GT 0 (.loop (bodyAt Tryz.prog 18 [1, 1, 0, 1, 0, 0])) (trip_Passages_L1_H x_0 s) (trip_Passages_L1_X x_0 r) (trip_Passages_L1_E x_0 r) := by
  refine Does.lp (H := trip_Passages_L1_H x_0) (X := trip_Passages_L1_X x_0) (E := trip_Passages_L1_E x_0) (fun s s2 h => ?_) (fun s r h => ?_) h
  · obtain ⟨k9, b1⟩ := s
    unfold trip_Passages_L1_step at h
    try dsimp only at h
    rcases ite_some h with ⟨c9, h⟩ | ⟨c9, h⟩
    · obtain ⟨x10, h11, h⟩ := bind_some h
      rcases ite_some h with ⟨c12, h⟩ | ⟨c12, h⟩
      · obtain ⟨h13, h⟩ := guard_some h
        simp only [Option.some.injEq, Sum.inl.injEq] at h
        subst h
        have hq := trip_Passages_L1_0 x_0 k9 b1 c9 x10 h11 c12 h13
        first | exact hq | exact Eq.mp (by simp only [trip_Passages_L1_H, List.length_set] <;> rfl) hq
      · obtain ⟨h14, h⟩ := guard_some h
        obtain ⟨h15, h⟩ := guard_some h
        simp only [Option.some.injEq, Sum.inl.injEq] at h
        subst h
        have hq := trip_Passages_L1_1 x_0 k9 b1 c9 x10 h11 c12 h14 h15
        first | exact hq | exact Eq.mp (by simp only [trip_Passages_L1_H, List.length_set] <;> rfl) hq
    · simp at h
  · obtain ⟨k9, b1⟩ := s
    unfold trip_Passages_L1_step at h
    try dsimp only at h
    rcases ite_some h with ⟨c9, h⟩ | ⟨c9, h⟩
    · obtain ⟨x10, h11, h⟩ := bind_some h
      rcases ite_some h with ⟨c12, h⟩ | ⟨c12, h⟩
      · obtain ⟨h13, h⟩ := guard_some h
        simp at h
      · obtain ⟨h14, h⟩ := guard_some h
        obtain ⟨h15, h⟩ := guard_some h
        simp at h
    · simp only [Option.some.injEq, Sum.inr.injEq] at h
      subst h
      exact ⟨trip_Passages_L1_2 x_0 k9 b1 c9, by intro q; cases q⟩
noncomputable def trip_Passages (x_0 : Tapi_Trip) : Option (List (List UInt8)) :=
  (lp (trip_Passages_L1_step x_0) ((0 : Nat), ([] : (List (List UInt8))))).bind fun o1 =>
  some o1
theorem trip_Passages_0 (x_0 : Tapi_Trip) (o1 : (List (List UInt8))) (hl1 : lp (trip_Passages_L1_step x_0) ((0 : Nat), ([] : (List (List UInt8)))) = some o1) : Ret Tryz.prog GT 18 [.agg (Tapi_Trip.enc x_0)] (.vec 0 o1.length 1) [(bV (fl e_str o1) 9)] :=
  Ret.of_view 400 (cs 7 ((.tr (.vec (.t 3) 1 9)) :: (.fcut 0 (.exit 0) [(3, .vec 0 o1.length 1)] [(bV (fl e_str o1) 9)] [1] [(3, .vec 0 (([] : (List (List UInt8))).length) 1), (7, .lst (fl Tapi_Stop.enc x_0.Stops) x_0.Stops.length), (8, .int .i64 (↑x_0.Stops.length : Int)), (9, .int .i64 (↑(0 : Nat) : Int))] [(bV (fl e_str ([] : (List (List UInt8)))) 9)]) :: (cs 2 []))) [2] (ps := [((.vec 1 0 1 : AV) = .vec 1 (([] : (List (List UInt8))).length) 1), ((.lst (fl Tapi_Stop.enc x_0.Stops) x_0.Stops.length : AV) = .lst (fl Tapi_Stop.enc x_0.Stops) x_0.Stops.length), ((.int .i64 (↑x_0.Stops.length : Int) : AV) = .int .i64 (↑x_0.Stops.length : Int)), ((.int .i64 0 : AV) = .int .i64 (↑(0 : Nat) : Int)), (((bV [] 9) : Blk) = renB [1] (bV (fl e_str ([] : (List (List UInt8)))) 9)), (Does Tryz.prog GT 0 (.loop (bodyAt Tryz.prog 18 [1, 1, 0, 1, 0, 0])) (S 23 [(3, .vec 0 (([] : (List (List UInt8))).length) 1), (7, .lst (fl Tapi_Stop.enc x_0.Stops) x_0.Stops.length), (8, .int .i64 (↑x_0.Stops.length : Int)), (9, .int .i64 (↑(0 : Nat) : Int))] [(bV (fl e_str ([] : (List (List UInt8)))) 9)]) (.exit 0) (S 23 [(3, .vec 0 o1.length 1)] [(bV (fl e_str o1) 9)]))]) (by kernel_rfl) (by kernel_rfl) ⟨(by first | rfl | simp only [List.length_replicate, List.length_set]), rfl, rfl, rfl, rfl, ok1 (trip_Passages_L1_does x_0 (s := ((0 : Nat), ([] : (List (List UInt8))))) (r := o1) hl1)⟩
theorem trip_Passages_ret (x_0 : Tapi_Trip) (r : (List (List UInt8))) (h : trip_Passages x_0 = some r) : Ret Tryz.prog GT 18 [.agg (Tapi_Trip.enc x_0)] (.vec 0 r.length 1) [(bV (fl e_str r) 9)] := by
  unfold trip_Passages at h
  obtain ⟨o1, hl1, h⟩ := bind_some h
  simp only [Option.some.injEq] at h
  subst h
  exact trip_Passages_0 x_0 o1 hl1
noncomputable def tollwayref21_Passages_L1_step (x_0 : Tapi_Trip) : (Nat × (List (List UInt8))) → Option ((Nat × (List (List UInt8))) ⊕ (List (List UInt8)))
  | (k4, b1) =>
    if (↑k4 : Int) < (↑x_0.Stops.length : Int) then
      (x_0.Stops[k4]?).bind fun x10 =>
      if x10.Passage = [] then
        if InR .i64 ((↑k4 : Int) + 1) then
          some (Sum.inl ((k4 + 1), b1))
        else none
      else
        if b1.length + 1 ≤ 8796093022000 then
          if InR .i64 ((↑k4 : Int) + 1) then
            some (Sum.inl ((k4 + 1), (b1 ++ [x10.Passage])))
          else none
        else none
    else
      some (Sum.inr b1)
def tollwayref21_Passages_L1_H (x_0 : Tapi_Trip) : (Nat × (List (List UInt8))) → St := fun (s : (Nat × (List (List UInt8)))) => S 30 [(1, .ptr 0 0), (3, .vec 1 s.2.length 1), (4, .int .i64 (↑s.1 : Int))] [(bT (Tapi_Trip.enc x_0) 90), (bV (fl e_str s.2) 9)]
def tollwayref21_Passages_L1_h1  : List CH := (cs 4 [.op none .a])
def tollwayref21_Passages_L1_h2 (k4 : Nat) (x10 : Tapi_Stop) : List CH := ((.br true) :: (cs 3 [.op none (.i k4), .op none .c, .op none (.v [.str x10.Passage]), .op none .a]))
def tollwayref21_Passages_L1_p3 (x_0 : Tapi_Trip) (k4 : Nat) (x10 : Tapi_Stop) : List Prop := [((decide ((↑k4 : Int) < (↑x_0.Stops.length : Int))) = true), ((↑k4 : Int) = ((k4 : Nat) : Int) ∧ k4 < x_0.Stops.length), ((fl Tapi_Stop.enc x_0.Stops) ≠ []), (sub (fl Tapi_Stop.enc x_0.Stops) ((k4 * 3) + 2) 1 = [.str x10.Passage])]
theorem tollwayref21_Passages_L1_p3q (x_0 : Tapi_Trip) (k4 : Nat) (c9 : (↑k4 : Int) < (↑x_0.Stops.length : Int)) (x10 : Tapi_Stop) (h11 : x_0.Stops[k4]? = some x10) : allOk (tollwayref21_Passages_L1_p3 x_0 k4 x10) := ⟨(decide_eq_true c9), ⟨rfl, get_lt h11⟩, (fl_ne (f := Tapi_Stop.enc) (z := 2) (fun _ => rfl) h11), ok1 (fl_sub (f := Tapi_Stop.enc) (z := 3) (j := k4) (a := 2) (n := 1) (fun _ => rfl) h11 (by decide) rfl)⟩
theorem tollwayref21_Passages_L1_0 (x_0 : Tapi_Trip) (k4 : Nat) (b1 : (List (List UInt8))) (c9 : (↑k4 : Int) < (↑x_0.Stops.length : Int)) (x10 : Tapi_Stop) (h11 : x_0.Stops[k4]? = some x10) (c12 : x10.Passage = []) (h13 : InR .i64 ((↑k4 : Int) + 1)) : Does Tryz.prog GT 1 (bodyAt Tryz.prog 21 [1, 1, 0, 1, 0, 0]) (tollwayref21_Passages_L1_H x_0 (k4, b1)) .normal (S 30 [(1, .ptr 0 0), (3, .vec 1 b1.length 1), (4, .int .i64 ((↑k4 : Int) + 1))] [(bT (Tapi_Trip.enc x_0) 90), (bV (fl e_str b1) 9)]) :=
  Does.of_viewM 1 400 ((tollwayref21_Passages_L1_h1) ++ ((tollwayref21_Passages_L1_h2 k4 x10) ++ [.br false, .op none .c, .op none .w, .op none .c])) [0, 1] (ps := ((tollwayref21_Passages_L1_p3 x_0 k4 x10) ++ [((!(x10.Passage == [])) = false), (IntKind.min .i64 ≤ ((↑k4 : Int) + 1) ∧ ((↑k4 : Int) + 1) ≤ IntKind.max .i64)])) (by kernel_rfl) (by kernel_rfl) (allOk_append.2 ⟨(tollwayref21_Passages_L1_p3q x_0 k4 c9 x10 h11), ⟨(not_f (beq_t c12)), ok1 h13⟩⟩)
theorem tollwayref21_Passages_L1_1 (x_0 : Tapi_Trip) (k4 : Nat) (b1 : (List (List UInt8))) (c9 : (↑k4 : Int) < (↑x_0.Stops.length : Int)) (x10 : Tapi_Stop) (h11 : x_0.Stops[k4]? = some x10) (c12 : ¬ (x10.Passage = [])) (h14 : b1.length + 1 ≤ 8796093022000) (h15 : InR .i64 ((↑k4 : Int) + 1)) : Does Tryz.prog GT 1 (bodyAt Tryz.prog 21 [1, 1, 0, 1, 0, 0]) (tollwayref21_Passages_L1_H x_0 (k4, b1)) .normal (S 30 [(1, .ptr 0 0), (3, .vec 1 ((b1 ++ [x10.Passage]).length) 1), (4, .int .i64 ((↑k4 : Int) + 1))] [(bT (Tapi_Trip.enc x_0) 90), (bV (fl e_str (b1 ++ [x10.Passage])) 9)]) :=
  Does.of_viewM 1 400 ((tollwayref21_Passages_L1_h1) ++ ((tollwayref21_Passages_L1_h2 k4 x10) ++ ((.br true) :: (cs 4 ((.op none (.i k4)) :: (.op none .c) :: (.op none (.v [.str x10.Passage])) :: (.op none .c) :: (.op none (.ap 4)) :: (.tr (.eqc 3 (fl e_str (b1 ++ [x10.Passage])))) :: (.tr (.eqt (.t 28) (.vec 3 ((b1 ++ [x10.Passage]).length) 1))) :: (cs 2 [.op none .w, .op none .c])))))) [0, 3] (ps := ((tollwayref21_Passages_L1_p3 x_0 k4 x10) ++ [((!(x10.Passage == [])) = true), ((↑k4 : Int) = ((k4 : Nat) : Int) ∧ k4 < x_0.Stops.length), ((fl Tapi_Stop.enc x_0.Stops) ≠ []), (sub (fl Tapi_Stop.enc x_0.Stops) ((k4 * 3) + 2) 1 = [.str x10.Passage]), (0 + 1 ≤ List.length ([.str x10.Passage] : List AV)), (List.length ((fl e_str b1) : List AV) = b1.length), (List.all ([.str x10.Passage] : List AV) AV.one = true), (b1.length + 1 ≤ 8796093022000), ((fl e_str b1) ++ [.str x10.Passage] = (fl e_str (b1 ++ [x10.Passage]))), ((.vec 3 (b1.length + 1) 1 : AV) = .vec 3 ((b1 ++ [x10.Passage]).length) 1), (IntKind.min .i64 ≤ ((↑k4 : Int) + 1) ∧ ((↑k4 : Int) + 1) ≤ IntKind.max .i64)])) (by kernel_rfl) (by kernel_rfl) (allOk_append.2 ⟨(tollwayref21_Passages_L1_p3q x_0 k4 c9 x10 h11), ⟨(not_t (beq_f c12)), ⟨rfl, get_lt h11⟩, (fl_ne (f := Tapi_Stop.enc) (z := 2) (fun _ => rfl) h11), (fl_sub (f := Tapi_Stop.enc) (z := 3) (j := k4) (a := 2) (n := 1) (fun _ => rfl) h11 (by decide) rfl), (Nat.le_of_ble_eq_true rfl), (fl_length1 (f := e_str) (fun _ => rfl) _), rfl, h14, (fl_snoc rfl), (by simp <;> omega), ok1 h15⟩⟩)
theorem tollwayref21_Passages_L1_2 (x_0 : Tapi_Trip) (k4 : Nat) (b1 : (List (List UInt8))) (c9 : ¬ ((↑k4 : Int) < (↑x_0.Stops.length : Int))) : Does Tryz.prog GT 1 (bodyAt Tryz.prog 21 [1, 1, 0, 1, 0, 0]) (tollwayref21_Passages_L1_H x_0 (k4, b1)) (.exit 0) (S 30 [(3, .vec 1 b1.length 1)] [(bT (Tapi_Trip.enc x_0) 90), (bV (fl e_str b1) 9)]) :=
  Does.of_viewM 1 400 ((tollwayref21_Passages_L1_h1) ++ [.br false]) [0, 1] (ps := [((decide ((↑k4 : Int) < (↑x_0.Stops.length : Int))) = false)]) (by kernel_rfl) (by kernel_rfl) (ok1 (decide_eq_false c9))
def tollwayref21_Passages_L1_X (x_0 : Tapi_Trip) : (List (List UInt8)) → AEx := fun o => (.exit 0)
def tollwayref21_Passages_L1_E (x_0 : Tapi_Trip) : (List (List UInt8)) → St := fun o => S 30 [(3, .vec 1 o.length 1)] [(bT (Tapi_Trip.enc x_0) 90), (bV (fl e_str o) 9)]
theorem tollwayref21_Passages_L1_does (x_0 : Tapi_Trip) {s : (Nat × (List (List UInt8)))} {r : (List (List UInt8))} (h : lp (tollwayref21_Passages_L1_step x_0) s = some r) : Does Tryz.prog GT 1 (.loop (bodyAt Tryz.prog 21 [1, 1, 0, 1, 0, 0])) (tollwayref21_Passages_L1_H x_0 s) (tollwayref21_Passages_L1_X x_0 r) (tollwayref21_Passages_L1_E x_0 r) := by
  refine Does.lp (H := tollwayref21_Passages_L1_H x_0) (X := tollwayref21_Passages_L1_X x_0) (E := tollwayref21_Passages_L1_E x_0) (fun s s2 h => ?_) (fun s r h => ?_) h
  · obtain ⟨k4, b1⟩ := s
    unfold tollwayref21_Passages_L1_step at h
    try dsimp only at h
    rcases ite_some h with ⟨c9, h⟩ | ⟨c9, h⟩
    · obtain ⟨x10, h11, h⟩ := bind_some h
      rcases ite_some h with ⟨c12, h⟩ | ⟨c12, h⟩
      · obtain ⟨h13, h⟩ := guard_some h
        simp only [Option.some.injEq, Sum.inl.injEq] at h
        subst h
        have hq := tollwayref21_Passages_L1_0 x_0 k4 b1 c9 x10 h11 c12 h13
        first | exact hq | exact Eq.mp (by simp only [tollwayref21_Passages_L1_H, List.length_set] <;> rfl) hq
      · obtain ⟨h14, h⟩ := guard_some h
        obtain ⟨h15, h⟩ := guard_some h
        simp only [Option.some.injEq, Sum.inl.injEq] at h
        subst h
        have hq := tollwayref21_Passages_L1_1 x_0 k4 b1 c9 x10 h11 c12 h14 h15
        first | exact hq | exact Eq.mp (by simp only [tollwayref21_Passages_L1_H, List.length_set] <;> rfl) hq
    · simp at h
  · obtain ⟨k4, b1⟩ := s
    unfold tollwayref21_Passages_L1_step at h
    try dsimp only at h
    rcases ite_some h with ⟨c9, h⟩ | ⟨c9, h⟩
    · obtain ⟨x10, h11, h⟩ := bind_some h
      rcases ite_some h with ⟨c12, h⟩ | ⟨c12, h⟩
      · obtain ⟨h13, h⟩ := guard_some h
        simp at h
      · obtain ⟨h14, h⟩ := guard_some h
        obtain ⟨h15, h⟩ := guard_some h
        simp at h
    · simp only [Option.some.injEq, Sum.inr.injEq] at h
      subst h
      exact ⟨tollwayref21_Passages_L1_2 x_0 k4 b1 c9, by intro q; cases q⟩
noncomputable def tollwayref21_Passages (x_0 : Tapi_Trip) : Option (List (List UInt8)) :=
  (lp (tollwayref21_Passages_L1_step x_0) ((0 : Nat), ([] : (List (List UInt8))))).bind fun o1 =>
  some o1
theorem tollwayref21_Passages_0 (x_0 : Tapi_Trip) (o1 : (List (List UInt8))) (hl1 : lp (tollwayref21_Passages_L1_step x_0) ((0 : Nat), ([] : (List (List UInt8)))) = some o1) : Ret Tryz.prog GT 21 [.agg (Tapi_Trip.enc x_0)] (.vec 0 o1.length 1) [(bV (fl e_str o1) 9)] :=
  Ret.of_view 400 (cs 5 ((.tr (.wid (.t 3))) :: (.fcut 1 (.exit 0) [(3, .vec 1 o1.length 1)] [(bT (Tapi_Trip.enc x_0) 90), (bV (fl e_str o1) 9)] [0, 1] [(1, .ptr 0 0), (3, .vec 1 (([] : (List (List UInt8))).length) 1), (4, .int .i64 (↑(0 : Nat) : Int))] [(bT (Tapi_Trip.enc x_0) 90), (bV (fl e_str ([] : (List (List UInt8)))) 9)]) :: (cs 2 []))) [3] (ps := [(0 ≤ 0), ((.ptr 0 0 : AV) = .ptr 0 0), ((.vec 1 0 1 : AV) = .vec 1 (([] : (List (List UInt8))).length) 1), ((.int .i64 0 : AV) = .int .i64 (↑(0 : Nat) : Int)), (((bT (Tapi_Trip.enc x_0) 90) : Blk) = renB [0, 1] (bT (Tapi_Trip.enc x_0) 90)), (((bV [] 9) : Blk) = renB [0, 1] (bV (fl e_str ([] : (List (List UInt8)))) 9)), (Does Tryz.prog GT 1 (.loop (bodyAt Tryz.prog 21 [1, 1, 0, 1, 0, 0])) (S 30 [(1, .ptr 0 0), (3, .vec 1 (([] : (List (List UInt8))).length) 1), (4, .int .i64 (↑(0 : Nat) : Int))] [(bT (Tapi_Trip.enc x_0) 90), (bV (fl e_str ([] : (List (List UInt8)))) 9)]) (.exit 0) (S 30 [(3, .vec 1 o1.length 1)] [(bT (Tapi_Trip.enc x_0) 90), (bV (fl e_str o1) 9)]))]) (by kernel_rfl) (by kernel_rfl) ⟨(Nat.le_refl _), rfl, (by first | rfl | simp only [List.length_replicate, List.length_set]), rfl, rfl, rfl, ok1 (tollwayref21_Passages_L1_does x_0 (s := ((0 : Nat), ([] : (List (List UInt8))))) (r := o1) hl1)⟩
theorem tollwayref21_Passages_ret (x_0 : Tapi_Trip) (r : (List (List UInt8))) (h : tollwayref21_Passages x_0 = some r) : Ret Tryz.prog GT 21 [.agg (Tapi_Trip.enc x_0)] (.vec 0 r.length 1) [(bV (fl e_str r) 9)] := by
  unfold tollwayref21_Passages at h
  obtain ⟨o1, hl1, h⟩ := bind_some h
  simp only [Option.some.injEq] at h
  subst h
  exact tollwayref21_Passages_0 x_0 o1 hl1
noncomputable def tollwayref47_insert_L1_step (l_0 : (List (List UInt8))) (s_1 : (List UInt8)) : Nat → Option (Nat ⊕ Int) := fun k5 =>
  if (↑k5 : Int) < (↑l_0.length : Int) then
    (l_0[k5]?).bind fun x8 =>
    if (Op.bytesLess x8 s_1 || x8 == s_1) = true then
      if InR .i64 ((↑k5 : Int) + 1) then
        some (Sum.inl (k5 + 1))
      else none
    else
      some (Sum.inr (↑k5 : Int))
  else
    some (Sum.inr (↑k5 : Int))
def tollwayref47_insert_L1_H (l_0 : (List (List UInt8))) (s_1 : (List UInt8)) : Nat → St := fun (s : Nat) => S 37 [(0, .lst (fl e_str l_0) l_0.length), (1, .str s_1), (5, .int .i64 (↑s : Int))] []
def tollwayref47_insert_L1_h1  : List CH := (cs 3 [.op none .a, .op none .c])
def tollwayref47_insert_L1_h2 (k5 : Nat) (x8 : (List UInt8)) : List CH := [.op (some true) .c, .op none .c, .op none (.i k5), .op none (.v [.str x8]), .op none .c, .op none .a, .op none .c]
def tollwayref47_insert_L1_p3 (l_0 : (List (List UInt8))) (k5 : Nat) (x8 : (List UInt8)) : List Prop := [((decide ((↑k5 : Int) < (↑l_0.length : Int))) = true), ((↑k5 : Int) = ((k5 : Nat) : Int) ∧ k5 < l_0.length), ((fl e_str l_0) ≠ []), (sub (fl e_str l_0) k5 1 = [.str x8])]
theorem tollwayref47_insert_L1_p3q (l_0 : (List (List UInt8))) (k5 : Nat) (c7 : (↑k5 : Int) < (↑l_0.length : Int)) (x8 : (List UInt8)) (h9 : l_0[k5]? = some x8) : allOk (tollwayref47_insert_L1_p3 l_0 k5 x8) := ⟨(decide_eq_true c7), ⟨rfl, get_lt h9⟩, (fl_ne (f := e_str) (z := 0) (fun _ => rfl) h9), ok1 (fl_sub1 (f := e_str) (fun _ => rfl) h9 rfl)⟩
theorem tollwayref47_insert_L1_0 (l_0 : (List (List UInt8))) (s_1 : (List UInt8)) (k5 : Nat) (c7 : (↑k5 : Int) < (↑l_0.length : Int)) (x8 : (List UInt8)) (h9 : l_0[k5]? = some x8) (c10 : (Op.bytesLess x8 s_1 || x8 == s_1) = true) (h11 : InR .i64 ((↑k5 : Int) + 1)) : Does Tryz.prog GT 0 (bodyAt Tryz.prog 22 [1, 1, 0, 0, 0]) (tollwayref47_insert_L1_H l_0 s_1 k5) .normal (S 37 [(0, .lst (fl e_str l_0) l_0.length), (1, .str s_1), (5, .int .i64 ((↑k5 : Int) + 1))] []) :=
  Does.of_viewM 0 400 ((tollwayref47_insert_L1_h1) ++ ((tollwayref47_insert_L1_h2 k5 x8) ++ [.br true, .op none .c, .op none .w, .op none .c])) [] (ps := ((tollwayref47_insert_L1_p3 l_0 k5 x8) ++ [((Op.bytesLess x8 s_1 || x8 == s_1) = true), (IntKind.min .i64 ≤ ((↑k5 : Int) + 1) ∧ ((↑k5 : Int) + 1) ≤ IntKind.max .i64)])) (by kernel_rfl) (by kernel_rfl) (allOk_append.2 ⟨(tollwayref47_insert_L1_p3q l_0 k5 c7 x8 h9), ⟨c10, ok1 h11⟩⟩)
theorem tollwayref47_insert_L1_1 (l_0 : (List (List UInt8))) (s_1 : (List UInt8)) (k5 : Nat) (c7 : (↑k5 : Int) < (↑l_0.length : Int)) (x8 : (List UInt8)) (h9 : l_0[k5]? = some x8) (c10 : ¬ ((Op.bytesLess x8 s_1 || x8 == s_1) = true)) : Does Tryz.prog GT 0 (bodyAt Tryz.prog 22 [1, 1, 0, 0, 0]) (tollwayref47_insert_L1_H l_0 s_1 k5) (.exit 0) (S 37 [(0, .lst (fl e_str l_0) l_0.length), (1, .str s_1), (5, .int .i64 (↑k5 : Int))] []) :=
  Does.of_viewM 0 400 ((tollwayref47_insert_L1_h1) ++ ((tollwayref47_insert_L1_h2 k5 x8) ++ [.br false])) [] (ps := ((tollwayref47_insert_L1_p3 l_0 k5 x8) ++ [((Op.bytesLess x8 s_1 || x8 == s_1) = false)])) (by kernel_rfl) (by kernel_rfl) (allOk_append.2 ⟨(tollwayref47_insert_L1_p3q l_0 k5 c7 x8 h9), (ok1 (eq_false_of_ne_true c10))⟩)
theorem tollwayref47_insert_L1_2 (l_0 : (List (List UInt8))) (s_1 : (List UInt8)) (k5 : Nat) (c7 : ¬ ((↑k5 : Int) < (↑l_0.length : Int))) : Does Tryz.prog GT 0 (bodyAt Tryz.prog 22 [1, 1, 0, 0, 0]) (tollwayref47_insert_L1_H l_0 s_1 k5) (.exit 0) (S 37 [(0, .lst (fl e_str l_0) l_0.length), (1, .str s_1), (5, .int .i64 (↑k5 : Int))] []) :=
  Does.of_viewM 0 400 ((tollwayref47_insert_L1_h1) ++ ((.op (some false) .c) :: (cs 6 [.br false]))) [] (ps := [((decide ((↑k5 : Int) < (↑l_0.length : Int))) = false), (false = false)]) (by kernel_rfl) (by kernel_rfl) ⟨(decide_eq_false c7), ok1 rfl⟩
def tollwayref47_insert_L1_X (l_0 : (List (List UInt8))) (s_1 : (List UInt8)) : Int → AEx := fun o => (.exit 0)
def tollwayref47_insert_L1_E (l_0 : (List (List UInt8))) (s_1 : (List UInt8)) : Int → St := fun o => S 37 [(0, .lst (fl e_str l_0) l_0.length), (1, .str s_1), (5, .int .i64 o)] []
theorem tollwayref47_insert_L1_does (l_0 : (List (List UInt8))) (s_1 : (List UInt8)) {s : Nat} {r : Int} (h : lp (tollwayref47_insert_L1_step l_0 s_1) s = some r) : Does Tryz.prog GT 0 (.loop (bodyAt Tryz.prog 22 [1, 1, 0, 0, 0])) (tollwayref47_insert_L1_H l_0 s_1 s) (tollwayref47_insert_L1_X l_0 s_1 r) (tollwayref47_insert_L1_E l_0 s_1 r) := by
  refine Does.lp (H := tollwayref47_insert_L1_H l_0 s_1) (X := tollwayref47_insert_L1_X l_0 s_1) (E := tollwayref47_insert_L1_E l_0 s_1) (fun s s2 h => ?_) (fun s r h => ?_) h
  · revert h; revert s; intro k5 h
    unfold tollwayref47_insert_L1_step at h
    try dsimp only at h
    rcases ite_some h with ⟨c7, h⟩ | ⟨c7, h⟩
    · obtain ⟨x8, h9, h⟩ := bind_some h
      rcases ite_some h with ⟨c10, h⟩ | ⟨c10, h⟩
      · obtain ⟨h11, h⟩ := guard_some h
        simp only [Option.some.injEq, Sum.inl.injEq] at h
        subst h
        have hq := tollwayref47_insert_L1_0 l_0 s_1 k5 c7 x8 h9 c10 h11
        first | exact hq | exact Eq.mp (by simp only [tollwayref47_insert_L1_H, List.length_set] <;> rfl) hq
      · simp at h
    · simp at h
  · revert h; revert s; intro k5 h
    unfold tollwayref47_insert_L1_step at h
    try dsimp only at h
    rcases ite_some h with ⟨c7, h⟩ | ⟨c7, h⟩
    · obtain ⟨x8, h9, h⟩ := bind_some h
      rcases ite_some h with ⟨c10, h⟩ | ⟨c10, h⟩
      · obtain ⟨h11, h⟩ := guard_some h
        simp at h
      · simp only [Option.some.injEq, Sum.inr.injEq] at h
        subst h
        exact ⟨tollwayref47_insert_L1_1 l_0 s_1 k5 c7 x8 h9 c10, by intro q; cases q⟩
    · simp only [Option.some.injEq, Sum.inr.injEq] at h
      subst h
      exact ⟨tollwayref47_insert_L1_2 l_0 s_1 k5 c7, by intro q; cases q⟩
noncomputable def tollwayref47_insert (l_0 : (List (List UInt8))) (s_1 : (List UInt8)) : Option (List (List UInt8)) :=
  (lp (tollwayref47_insert_L1_step l_0 s_1) (0 : Nat)).bind fun o1 =>
  if (0 : Int) ≤ o1 then
    if (Int.toNat o1) ≤ l_0.length then
      if 0 + ((List.take (Int.toNat o1) l_0).length) ≤ 8796093022000 then
        if ((List.take (Int.toNat o1) l_0).length) + 1 ≤ 8796093022000 then
          if (((List.take (Int.toNat o1) l_0) ++ [s_1]).length) + ((List.drop (Int.toNat o1) l_0).length) ≤ 8796093022000 then
            some (((List.take (Int.toNat o1) l_0) ++ [s_1]) ++ (List.drop (Int.toNat o1) l_0))
          else none
        else none
      else none
    else none
  else none
theorem tollwayref47_insert_0 (l_0 : (List (List UInt8))) (s_1 : (List UInt8)) (o1 : Int) (hl1 : lp (tollwayref47_insert_L1_step l_0 s_1) (0 : Nat) = some o1) (h12 : (0 : Int) ≤ o1) (h13 : (Int.toNat o1) ≤ l_0.length) (h14 : 0 + ((List.take (Int.toNat o1) l_0).length) ≤ 8796093022000) (h15 : ((List.take (Int.toNat o1) l_0).length) + 1 ≤ 8796093022000) (h16 : (((List.take (Int.toNat o1) l_0) ++ [s_1]).length) + ((List.drop (Int.toNat o1) l_0).length) ≤ 8796093022000) : Ret Tryz.prog GT 22 [.lst (fl e_str l_0) l_0.length, .str s_1] (.vec 0 ((((List.take (Int.toNat o1) l_0) ++ [s_1]) ++ (List.drop (Int.toNat o1) l_0)).length) 1) [(bV (fl e_str (((List.take (Int.toNat o1) l_0) ++ [s_1]) ++ (List.drop (Int.toNat o1) l_0))) 9)] :=
  Ret.of_view 400 (cs 2 ((.fcut 0 (.exit 0) [(0, .lst (fl e_str l_0) l_0.length), (1, .str s_1), (5, .int .i64 o1)] [] [] [(0, .lst (fl e_str l_0) l_0.length), (1, .str s_1), (5, .int .i64 (↑(0 : Nat) : Int))] []) :: (cs 5 ((.op none (.s 0 (Int.toNat o1))) :: (.tr (.eqt (.t 25) (.lst (fl e_str (List.take (Int.toNat o1) l_0)) ((List.take (Int.toNat o1) l_0).length)))) :: (.tr (.wid (.t 22))) :: (.op none (.ap 4)) :: (.tr (.eqc 1 (fl e_str (List.take (Int.toNat o1) l_0)))) :: (.tr (.eqt (.t 26) (.vec 1 ((List.take (Int.toNat o1) l_0).length) 1))) :: (cs 4 ((.op none (.ap 4)) :: (.tr (.eqc 3 (fl e_str ((List.take (Int.toNat o1) l_0) ++ [s_1])))) :: (.tr (.eqt (.t 30) (.vec 3 (((List.take (Int.toNat o1) l_0) ++ [s_1]).length) 1))) :: (cs 4 ((.op none (.s (Int.toNat o1) l_0.length)) :: (.tr (.eqt (.t 34) (.lst (fl e_str (List.drop (Int.toNat o1) l_0)) ((List.drop (Int.toNat o1) l_0).length)))) :: (.op none (.ap 4)) :: (.tr (.eqc 4 (fl e_str (((List.take (Int.toNat o1) l_0) ++ [s_1]) ++ (List.drop (Int.toNat o1) l_0))))) :: (.tr (.eqt (.t 35) (.vec 4 ((((List.take (Int.toNat o1) l_0) ++ [s_1]) ++ (List.drop (Int.toNat o1) l_0)).length) 1))) :: (cs 3 []))))))))) [4] (ps := [((.lst (fl e_str l_0) l_0.length : AV) = .lst (fl e_str l_0) l_0.length), ((.str s_1 : AV) = .str s_1), ((.int .i64 0 : AV) = .int .i64 (↑(0 : Nat) : Int)), (Does Tryz.prog GT 0 (.loop (bodyAt Tryz.prog 22 [1, 1, 0, 0, 0])) (S 37 [(0, .lst (fl e_str l_0) l_0.length), (1, .str s_1), (5, .int .i64 (↑(0 : Nat) : Int))] []) (.exit 0) (S 37 [(0, .lst (fl e_str l_0) l_0.length), (1, .str s_1), (5, .int .i64 o1)] [])), (o1 = (((Int.toNat o1) : Nat) : Int)), (0 ≤ (Int.toNat o1) ∧ (Int.toNat o1) ≤ l_0.length), ((.lst (List.take (Int.toNat o1) (fl e_str l_0)) (Int.toNat o1) : AV) = .lst (fl e_str (List.take (Int.toNat o1) l_0)) ((List.take (Int.toNat o1) l_0).length)), (0 ≤ 0), (List.length ((fl e_str (List.take (Int.toNat o1) l_0)) : List AV) = ((List.take (Int.toNat o1) l_0).length)), (List.length ([] : List AV) = 0), (List.all ((fl e_str (List.take (Int.toNat o1) l_0)) : List AV) AV.one = true), (0 + ((List.take (Int.toNat o1) l_0).length) ≤ 8796093022000), ([] ++ (fl e_str (List.take (Int.toNat o1) l_0)) = (fl e_str (List.take (Int.toNat o1) l_0))), ((.vec 1 (0 + ((List.take (Int.toNat o1) l_0).length)) 1 : AV) = .vec 1 ((List.take (Int.toNat o1) l_0).length) 1), (0 + 1 ≤ List.length ([.str s_1] : List AV)), (List.length ((fl e_str (List.take (Int.toNat o1) l_0)) : List AV) = ((List.take (Int.toNat o1) l_0).length)), (List.all ([.str s_1] : List AV) AV.one = true), (((List.take (Int.toNat o1) l_0).length) + 1 ≤ 8796093022000), ((fl e_str (List.take (Int.toNat o1) l_0)) ++ [.str s_1] = (fl e_str ((List.take (Int.toNat o1) l_0) ++ [s_1]))), ((.vec 3 (((List.take (Int.toNat o1) l_0).length) + 1) 1 : AV) = .vec 3 (((List.take (Int.toNat o1) l_0) ++ [s_1]).length) 1), (o1 = (((Int.toNat o1) : Nat) : Int)), ((Int.toNat o1) ≤ l_0.length ∧ l_0.length ≤ l_0.length), (List.length ((fl e_str l_0) : List AV) ≤ l_0.length), ((.lst (List.drop (Int.toNat o1) (fl e_str l_0)) (l_0.length - (Int.toNat o1)) : AV) = .lst (fl e_str (List.drop (Int.toNat o1) l_0)) ((List.drop (Int.toNat o1) l_0).length)), (List.length ((fl e_str (List.drop (Int.toNat o1) l_0)) : List AV) = ((List.drop (Int.toNat o1) l_0).length)), (List.length ((fl e_str ((List.take (Int.toNat o1) l_0) ++ [s_1])) : List AV) = (((List.take (Int.toNat o1) l_0) ++ [s_1]).length)), (List.all ((fl e_str (List.drop (Int.toNat o1) l_0)) : List AV) AV.one = true), ((((List.take (Int.toNat o1) l_0) ++ [s_1]).length) + ((List.drop (Int.toNat o1) l_0).length) ≤ 8796093022000), ((fl e_str ((List.take (Int.toNat o1) l_0) ++ [s_1])) ++ (fl e_str (List.drop (Int.toNat o1) l_0)) = (fl e_str (((List.take (Int.toNat o1) l_0) ++ [s_1]) ++ (List.drop (Int.toNat o1) l_0)))), ((.vec 4 ((((List.take (Int.toNat o1) l_0) ++ [s_1]).length) + ((List.drop (Int.toNat o1) l_0).length)) 1 : AV) = .vec 4 ((((List.take (Int.toNat o1) l_0) ++ [s_1]) ++ (List.drop (Int.toNat o1) l_0)).length) 1)]) (by kernel_rfl) (by kernel_rfl) ⟨rfl, rfl, rfl, (tollwayref47_insert_L1_does l_0 s_1 (s := (0 : Nat)) (r := o1) hl1), (Int.toNat_of_nonneg h12).symm, ⟨Nat.zero_le _, h13⟩, (lst_eq (fl_take1 (f := e_str) (fun _ => rfl) _ _) (by rw [List.length_take]; omega)), (Nat.le_refl _), (fl_length1 (f := e_str) (fun _ => rfl) _), rfl, (all_one (f := e_str) (fun _ => rfl) _), h14, rfl, (by simp <;> omega), (Nat.le_of_ble_eq_true rfl), (fl_length1 (f := e_str) (fun _ => rfl) _), rfl, h15, (fl_snoc rfl), (by simp <;> omega), (Int.toNat_of_nonneg h12).symm, ⟨h13, Nat.le_refl _⟩, (Nat.le_of_eq (fl_length1 (f := e_str) (fun _ => rfl) _)), (lst_eq (fl_drop1 (f := e_str) (fun _ => rfl) _ _) (by rw [List.length_drop])), (fl_length1 (f := e_str) (fun _ => rfl) _), (fl_length1 (f := e_str) (fun _ => rfl) _), (all_one (f := e_str) (fun _ => rfl) _), h16, fl_app.symm, ok1 (by simp <;> omega)⟩
theorem tollwayref47_insert_ret (l_0 : (List (List UInt8))) (s_1 : (List UInt8)) (r : (List (List UInt8))) (h : tollwayref47_insert l_0 s_1 = some r) : Ret Tryz.prog GT 22 [.lst (fl e_str l_0) l_0.length, .str s_1] (.vec 0 r.length 1) [(bV (fl e_str r) 9)] := by
  unfold tollwayref47_insert at h
  obtain ⟨o1, hl1, h⟩ := bind_some h
  obtain ⟨h12, h⟩ := guard_some h
  obtain ⟨h13, h⟩ := guard_some h
  obtain ⟨h14, h⟩ := guard_some h
  obtain ⟨h15, h⟩ := guard_some h
  obtain ⟨h16, h⟩ := guard_some h
  simp only [Option.some.injEq] at h
  subst h
  exact tollwayref47_insert_0 l_0 s_1 o1 hl1 h12 h13 h14 h15 h16
noncomputable def tollwayref01_Format_L2_step (n_0 : Int) : ((List UInt8) × Int) → Option (((List UInt8) × Int) ⊕ (List UInt8))
  | (v3, v4) =>
    if v4 = (0 : Int) then
      some (Sum.inr v3)
    else
      if (Int.tmod v4 10) < (0 : Int) then
        if InR .i64 (0 - (Int.tmod v4 10)) then
          if InR .i64 ((0 - (Int.tmod v4 10)) + 1) then
            if (0 : Int) ≤ (0 - (Int.tmod v4 10)) then
              if (0 : Int) ≤ ((0 - (Int.tmod v4 10)) + 1) then
                if (Int.toNat (0 - (Int.tmod v4 10))) ≤ (Int.toNat ((0 - (Int.tmod v4 10)) + 1)) then
                  if (Int.toNat ((0 - (Int.tmod v4 10)) + 1)) ≤ 10 then
                    (some ((List.drop (Int.toNat (0 - (Int.tmod v4 10))) (List.take (Int.toNat ((0 - (Int.tmod v4 10)) + 1)) ([48, 49, 50, 51, 52, 53, 54, 55, 56, 57] : List UInt8))))).bind fun s32 =>
                    if s32.length + v3.length ≤ 9223372036854775807 then
                      if InR .i64 (Int.tdiv v4 10) then
                        some (Sum.inl (s32 ++ v3, (Int.tdiv v4 10)))
                      else none
                    else none
                  else none
                else none
              else none
            else none
          else none
        else none
      else
        if InR .i64 ((Int.tmod v4 10) + 1) then
          if (0 : Int) ≤ (Int.tmod v4 10) then
            if (0 : Int) ≤ ((Int.tmod v4 10) + 1) then
              if (Int.toNat (Int.tmod v4 10)) ≤ (Int.toNat ((Int.tmod v4 10) + 1)) then
                if (Int.toNat ((Int.tmod v4 10) + 1)) ≤ 10 then
                  (some ((List.drop (Int.toNat (Int.tmod v4 10)) (List.take (Int.toNat ((Int.tmod v4 10) + 1)) ([48, 49, 50, 51, 52, 53, 54, 55, 56, 57] : List UInt8))))).bind fun s41 =>
                  if s41.length + v3.length ≤ 9223372036854775807 then
                    if InR .i64 (Int.tdiv v4 10) then
                      some (Sum.inl (s41 ++ v3, (Int.tdiv v4 10)))
                    else none
                  else none
                else none
              else none
            else none
          else none
        else none
def tollwayref01_Format_L2_H (n_0 : Int) : ((List UInt8) × Int) → St := fun (s : ((List UInt8) × Int)) => S 30 [(0, .int .i64 n_0), (3, .str s.1), (4, .int .i64 s.2)] []
def tollwayref01_Format_L2_h1  : List CH := ((.br true) :: (.op none .c) :: (.op none .a) :: (cs 2 [.op none .a]))
theorem tollwayref01_Format_L2_0 (n_0 : Int) (v3 : (List UInt8)) (v4 : Int) (c24 : v4 = (0 : Int)) : Does Tryz.prog GT 0 (bodyAt Tryz.prog 23 [1, 1, 1, 0, 1, 0, 0]) (tollwayref01_Format_L2_H n_0 (v3, v4)) (.exit 0) (S 30 [(0, .int .i64 n_0), (3, .str v3)] []) :=
  Does.of_viewM 0 400 ([.op none .c, .op none .a] ++ [.br false]) [] (ps := [((!(v4 == (0 : Int))) = false)]) (by kernel_rfl) (by kernel_rfl) (ok1 (not_f (beq_t c24)))
theorem tollwayref01_Format_L2_1 (n_0 : Int) (v3 : (List UInt8)) (v4 : Int) (c24 : ¬ (v4 = (0 : Int))) (c25 : (Int.tmod v4 10) < (0 : Int)) (h26 : InR .i64 (0 - (Int.tmod v4 10))) (h27 : InR .i64 ((0 - (Int.tmod v4 10)) + 1)) (h28 : (0 : Int) ≤ (0 - (Int.tmod v4 10))) (h29 : (0 : Int) ≤ ((0 - (Int.tmod v4 10)) + 1)) (h30 : (Int.toNat (0 - (Int.tmod v4 10))) ≤ (Int.toNat ((0 - (Int.tmod v4 10)) + 1))) (h31 : (Int.toNat ((0 - (Int.tmod v4 10)) + 1)) ≤ 10) (s32 : (List UInt8)) (h33 : some ((List.drop (Int.toNat (0 - (Int.tmod v4 10))) (List.take (Int.toNat ((0 - (Int.tmod v4 10)) + 1)) ([48, 49, 50, 51, 52, 53, 54, 55, 56, 57] : List UInt8)))) = some s32) (h34 : s32.length + v3.length ≤ 9223372036854775807) (h35 : InR .i64 (Int.tdiv v4 10)) : Does Tryz.prog GT 0 (bodyAt Tryz.prog 23 [1, 1, 1, 0, 1, 0, 0]) (tollwayref01_Format_L2_H n_0 (v3, v4)) .normal (S 30 [(0, .int .i64 n_0), (3, .str (s32 ++ v3)), (4, .int .i64 (Int.tdiv v4 10))] []) :=
  Does.of_viewM 0 400 ([.op none .c, .op none .a] ++ ((tollwayref01_Format_L2_h1) ++ ((.br true) :: (.op none .c) :: (.op none .w) :: (cs 3 ((.op none .w) :: (.op none (.s (Int.toNat (0 - (Int.tmod v4 10))) (Int.toNat ((0 - (Int.tmod v4 10)) + 1)))) :: (.tr (.eqt (.t 22) (.str s32))) :: (.op none .c) :: (.op none .a) :: (cs 2 [.op none .w, .op none .c])))))) [] (ps := ([((!(v4 == (0 : Int))) = true), (10 ≠ (0 : Int))] ++ [((decide ((Int.tmod v4 10) < (0 : Int))) = true), (IntKind.min .i64 ≤ (0 - (Int.tmod v4 10)) ∧ (0 - (Int.tmod v4 10)) ≤ IntKind.max .i64), (IntKind.min .i64 ≤ ((0 - (Int.tmod v4 10)) + 1) ∧ ((0 - (Int.tmod v4 10)) + 1) ≤ IntKind.max .i64), (((0 - (Int.tmod v4 10)) + 1) = (((Int.toNat ((0 - (Int.tmod v4 10)) + 1)) : Nat) : Int)), ((0 - (Int.tmod v4 10)) = (((Int.toNat (0 - (Int.tmod v4 10))) : Nat) : Int)), ((Int.toNat (0 - (Int.tmod v4 10))) ≤ (Int.toNat ((0 - (Int.tmod v4 10)) + 1)) ∧ (Int.toNat ((0 - (Int.tmod v4 10)) + 1)) ≤ 10), ((.str (List.drop (Int.toNat (0 - (Int.tmod v4 10))) (List.take (Int.toNat ((0 - (Int.tmod v4 10)) + 1)) ([48, 49, 50, 51, 52, 53, 54, 55, 56, 57] : List UInt8))) : AV) = .str s32), (s32.length + v3.length ≤ 9223372036854775807), (10 ≠ (0 : Int)), (IntKind.min .i64 ≤ (Int.tdiv v4 10) ∧ (Int.tdiv v4 10) ≤ IntKind.max .i64)])) (by kernel_rfl) (by kernel_rfl) (allOk_append.2 ⟨⟨(not_t (beq_f c24)), ok1 (by decide)⟩, ⟨(decide_eq_true c25), h26, h27, (Int.toNat_of_nonneg h29).symm, (Int.toNat_of_nonneg h28).symm, ⟨h30, h31⟩, (congrArg _ (Option.some.inj h33)), h34, (by decide), ok1 h35⟩⟩)
theorem tollwayref01_Format_L2_2 (n_0 : Int) (v3 : (List UInt8)) (v4 : Int) (c24 : ¬ (v4 = (0 : Int))) (c25 : ¬ ((Int.tmod v4 10) < (0 : Int))) (h36 : InR .i64 ((Int.tmod v4 10) + 1)) (h37 : (0 : Int) ≤ (Int.tmod v4 10)) (h38 : (0 : Int) ≤ ((Int.tmod v4 10) + 1)) (h39 : (Int.toNat (Int.tmod v4 10)) ≤ (Int.toNat ((Int.tmod v4 10) + 1))) (h40 : (Int.toNat ((Int.tmod v4 10) + 1)) ≤ 10) (s41 : (List UInt8)) (h42 : some ((List.drop (Int.toNat (Int.tmod v4 10)) (List.take (Int.toNat ((Int.tmod v4 10) + 1)) ([48, 49, 50, 51, 52, 53, 54, 55, 56, 57] : List UInt8)))) = some s41) (h43 : s41.length + v3.length ≤ 9223372036854775807) (h44 : InR .i64 (Int.tdiv v4 10)) : Does Tryz.prog GT 0 (bodyAt Tryz.prog 23 [1, 1, 1, 0, 1, 0, 0]) (tollwayref01_Format_L2_H n_0 (v3, v4)) .normal (S 30 [(0, .int .i64 n_0), (3, .str (s41 ++ v3)), (4, .int .i64 (Int.tdiv v4 10))] []) :=
  Does.of_viewM 0 400 ([.op none .c, .op none .a] ++ ((tollwayref01_Format_L2_h1) ++ ((.br false) :: (cs 2 ((.op none .w) :: (.op none (.s (Int.toNat (Int.tmod v4 10)) (Int.toNat ((Int.tmod v4 10) + 1)))) :: (.tr (.eqt (.t 22) (.str s41))) :: (.op none .c) :: (.op none .a) :: (cs 2 [.op none .w, .op none .c])))))) [] (ps := ([((!(v4 == (0 : Int))) = true), (10 ≠ (0 : Int))] ++ [((decide ((Int.tmod v4 10) < (0 : Int))) = false), (IntKind.min .i64 ≤ ((Int.tmod v4 10) + 1) ∧ ((Int.tmod v4 10) + 1) ≤ IntKind.max .i64), (((Int.tmod v4 10) + 1) = (((Int.toNat ((Int.tmod v4 10) + 1)) : Nat) : Int)), ((Int.tmod v4 10) = (((Int.toNat (Int.tmod v4 10)) : Nat) : Int)), ((Int.toNat (Int.tmod v4 10)) ≤ (Int.toNat ((Int.tmod v4 10) + 1)) ∧ (Int.toNat ((Int.tmod v4 10) + 1)) ≤ 10), ((.str (List.drop (Int.toNat (Int.tmod v4 10)) (List.take (Int.toNat ((Int.tmod v4 10) + 1)) ([48, 49, 50, 51, 52, 53, 54, 55, 56, 57] : List UInt8))) : AV) = .str s41), (s41.length + v3.length ≤ 9223372036854775807), (10 ≠ (0 : Int)), (IntKind.min .i64 ≤ (Int.tdiv v4 10) ∧ (Int.tdiv v4 10) ≤ IntKind.max .i64)])) (by kernel_rfl) (by kernel_rfl) (allOk_append.2 ⟨⟨(not_t (beq_f c24)), ok1 (by decide)⟩, ⟨(decide_eq_false c25), h36, (Int.toNat_of_nonneg h38).symm, (Int.toNat_of_nonneg h37).symm, ⟨h39, h40⟩, (congrArg _ (Option.some.inj h42)), h43, (by decide), ok1 h44⟩⟩)
def tollwayref01_Format_L2_X (n_0 : Int) : (List UInt8) → AEx := fun o => (.exit 0)
def tollwayref01_Format_L2_E (n_0 : Int) : (List UInt8) → St := fun o => S 30 [(0, .int .i64 n_0), (3, .str o)] []
theorem tollwayref01_Format_L2_does (n_0 : Int) {s : ((List UInt8) × Int)} {r : (List UInt8)} (h : lp (tollwayref01_Format_L2_step n_0) s = some r) : Does Tryz.prog GT 0 (.loop (bodyAt Tryz.prog 23 [1, 1, 1, 0, 1, 0, 0])) (tollwayref01_Format_L2_H n_0 s) (tollwayref01_Format_L2_X n_0 r) (tollwayref01_Format_L2_E n_0 r) := by
  refine Does.lp (H := tollwayref01_Format_L2_H n_0) (X := tollwayref01_Format_L2_X n_0) (E := tollwayref01_Format_L2_E n_0) (fun s s2 h => ?_) (fun s r h => ?_) h
  · obtain ⟨v3, v4⟩ := s
    unfold tollwayref01_Format_L2_step at h
    try dsimp only at h
    rcases ite_some h with ⟨c24, h⟩ | ⟨c24, h⟩
    · simp at h
    · rcases ite_some h with ⟨c25, h⟩ | ⟨c25, h⟩
      · obtain ⟨h26, h⟩ := guard_some h
        obtain ⟨h27, h⟩ := guard_some h
        obtain ⟨h28, h⟩ := guard_some h
        obtain ⟨h29, h⟩ := guard_some h
        obtain ⟨h30, h⟩ := guard_some h
        obtain ⟨h31, h⟩ := guard_some h
        obtain ⟨s32, h33, h⟩ := bind_some h
        obtain ⟨h34, h⟩ := guard_some h
        obtain ⟨h35, h⟩ := guard_some h
        simp only [Option.some.injEq, Sum.inl.injEq] at h
        subst h
        have hq := tollwayref01_Format_L2_1 n_0 v3 v4 c24 c25 h26 h27 h28 h29 h30 h31 s32 h33 h34 h35
        first | exact hq | exact Eq.mp (by simp only [tollwayref01_Format_L2_H, List.length_set] <;> rfl) hq
      · obtain ⟨h36, h⟩ := guard_some h
        obtain ⟨h37, h⟩ := guard_some h
        obtain ⟨h38, h⟩ := guard_some h
        obtain ⟨h39, h⟩ := guard_some h
        obtain ⟨h40, h⟩ := guard_some h
        obtain ⟨s41, h42, h⟩ := bind_some h
        obtain ⟨h43, h⟩ := guard_some h
        obtain ⟨h44, h⟩ := guard_some h
        simp only [Option.some.injEq, Sum.inl.injEq] at h
        subst h
        have hq := tollwayref01_Format_L2_2 n_0 v3 v4 c24 c25 h36 h37 h38 h39 h40 s41 h42 h43 h44
        first | exact hq | exact Eq.mp (by simp only [tollwayref01_Format_L2_H, List.length_set] <;> rfl) hq
  · obtain ⟨v3, v4⟩ := s
    unfold tollwayref01_Format_L2_step at h
    try dsimp only at h
    rcases ite_some h with ⟨c24, h⟩ | ⟨c24, h⟩
    · simp only [Option.some.injEq, Sum.inr.injEq] at h
      subst h
      exact ⟨tollwayref01_Format_L2_0 n_0 v3 v4 c24, by intro q; cases q⟩
    · rcases ite_some h with ⟨c25, h⟩ | ⟨c25, h⟩
      · obtain ⟨h26, h⟩ := guard_some h
        obtain ⟨h27, h⟩ := guard_some h
        obtain ⟨h28, h⟩ := guard_some h
        obtain ⟨h29, h⟩ := guard_some h
        obtain ⟨h30, h⟩ := guard_some h
        obtain ⟨h31, h⟩ := guard_some h
        obtain ⟨s32, h33, h⟩ := bind_some h
        obtain ⟨h34, h⟩ := guard_some h
        obtain ⟨h35, h⟩ := guard_some h
        simp at h
      · obtain ⟨h36, h⟩ := guard_some h
        obtain ⟨h37, h⟩ := guard_some h
        obtain ⟨h38, h⟩ := guard_some h
        obtain ⟨h39, h⟩ := guard_some h
        obtain ⟨h40, h⟩ := guard_some h
        obtain ⟨s41, h42, h⟩ := bind_some h
        obtain ⟨h43, h⟩ := guard_some h
        obtain ⟨h44, h⟩ := guard_some h
        simp at h
noncomputable def tollwayref01_Format (n_0 : Int) : Option (List UInt8) :=
  if n_0 = (0 : Int) then
    some ([48] : List UInt8)
  else
    (lp (tollwayref01_Format_L2_step n_0) (([] : List UInt8), n_0)).bind fun o2 =>
    if n_0 < (0 : Int) then
      if ([45] : List UInt8).length + o2.length ≤ 9223372036854775807 then
        some (([45] : List UInt8) ++ o2)
      else none
    else
      some o2
def tollwayref01_Format_h1  : List CH := (cs 2 [.op none .a])
def tollwayref01_Format_h2 (n_0 : Int) (o2 : (List UInt8)) : List CH := ((.br false) :: (cs 3 [.fcut 0 (.exit 0) [(0, .int .i64 n_0), (3, .str o2)] [] [] [(0, .int .i64 n_0), (3, .str ([] : List UInt8)), (4, .int .i64 n_0)] [], .op none .c, .op none .a]))
def tollwayref01_Format_p3 (n_0 : Int) (o2 : (List UInt8)) : List Prop := [((n_0 == (0 : Int)) = false), ((.int .i64 n_0 : AV) = .int .i64 n_0), ((.str [] : AV) = .str ([] : List UInt8)), ((.int .i64 n_0 : AV) = .int .i64 n_0), (Does Tryz.prog GT 0 (.loop (bodyAt Tryz.prog 23 [1, 1, 1, 0, 1, 0, 0])) (S 30 [(0, .int .i64 n_0), (3, .str ([] : List UInt8)), (4, .int .i64 n_0)] []) (.exit 0) (S 30 [(0, .int .i64 n_0), (3, .str o2)] []))]
theorem tollwayref01_Format_p3q (n_0 : Int) (c1 : ¬ (n_0 = (0 : Int))) (o2 : (List UInt8)) (hl2 : lp (tollwayref01_Format_L2_step n_0) (([] : List UInt8), n_0) = some o2) : allOk (tollwayref01_Format_p3 n_0 o2) := ⟨(beq_f c1), rfl, rfl, rfl, ok1 (tollwayref01_Format_L2_does n_0 (s := (([] : List UInt8), n_0)) (r := o2) hl2)⟩
theorem tollwayref01_Format_0 (n_0 : Int) (c1 : n_0 = (0 : Int)) : Ret Tryz.prog GT 23 [.int .i64 n_0] (.str [48]) [] :=
  Ret.of_view 400 ((tollwayref01_Format_h1) ++ [.br true, .op none .c]) [] (ps := [((n_0 == (0 : Int)) = true)]) (by kernel_rfl) (by kernel_rfl) (ok1 (beq_t c1))
theorem tollwayref01_Format_1 (n_0 : Int) (c1 : ¬ (n_0 = (0 : Int))) (o2 : (List UInt8)) (hl2 : lp (tollwayref01_Format_L2_step n_0) (([] : List UInt8), n_0) = some o2) (c45 : n_0 < (0 : Int)) (h46 : ([45] : List UInt8).length + o2.length ≤ 9223372036854775807) : Ret Tryz.prog GT 23 [.int .i64 n_0] (.str (([45] : List UInt8) ++ o2)) [] :=
  Ret.of_view 400 ((tollwayref01_Format_h1) ++ ((tollwayref01_Format_h2 n_0 o2) ++ ((.br true) :: (.op none .c) :: (.op none .a) :: (cs 3 [])))) [] (ps := ((tollwayref01_Format_p3 n_0 o2) ++ [((decide (n_0 < (0 : Int))) = true), (([45] : List UInt8).length + o2.length ≤ 9223372036854775807)])) (by kernel_rfl) (by kernel_rfl) (allOk_append.2 ⟨(tollwayref01_Format_p3q n_0 c1 o2 hl2), ⟨(decide_eq_true c45), ok1 h46⟩⟩)
theorem tollwayref01_Format_2 (n_0 : Int) (c1 : ¬ (n_0 = (0 : Int))) (o2 : (List UInt8)) (hl2 : lp (tollwayref01_Format_L2_step n_0) (([] : List UInt8), n_0) = some o2) (c45 : ¬ (n_0 < (0 : Int))) : Ret Tryz.prog GT 23 [.int .i64 n_0] (.str o2) [] :=
  Ret.of_view 400 ((tollwayref01_Format_h1) ++ ((tollwayref01_Format_h2 n_0 o2) ++ ((.br false) :: (cs 2 [])))) [] (ps := ((tollwayref01_Format_p3 n_0 o2) ++ [((decide (n_0 < (0 : Int))) = false)])) (by kernel_rfl) (by kernel_rfl) (allOk_append.2 ⟨(tollwayref01_Format_p3q n_0 c1 o2 hl2), (ok1 (decide_eq_false c45))⟩)
theorem tollwayref01_Format_ret (n_0 : Int) (r : (List UInt8)) (h : tollwayref01_Format n_0 = some r) : Ret Tryz.prog GT 23 [.int .i64 n_0] (.str r) [] := by
  unfold tollwayref01_Format at h
  rcases ite_some h with ⟨c1, h⟩ | ⟨c1, h⟩
  · simp only [Option.some.injEq] at h
    subst h
    exact tollwayref01_Format_0 n_0 c1
  · obtain ⟨o2, hl2, h⟩ := bind_some h
    rcases ite_some h with ⟨c45, h⟩ | ⟨c45, h⟩
    · obtain ⟨h46, h⟩ := guard_some h
      simp only [Option.some.injEq] at h
      subst h
      exact tollwayref01_Format_1 n_0 c1 o2 hl2 c45 h46
    · simp only [Option.some.injEq] at h
      subst h
      exact tollwayref01_Format_2 n_0 c1 o2 hl2 c45
end Go.Proofs.YtnlaiahcemckkaaGreatDoor.Av
set_option linter.unusedVariables false
set_option linter.unusedSimpArgs false
set_option maxHeartbeats 4000000
namespace Go.Proofs.YtnlaiahcemckkaaGreatDoor.Av
open Go Go.Proofs
structure Tapi_Source where
  Device : (List UInt8)
  Seq : Int
def Tapi_Source.enc (x : Tapi_Source) : List AV := [.str x.Device, .int .i64 x.Seq]
structure Tapi_Passage where
  ID : (List UInt8)
  Point : (List UInt8)
  Time : Int
  Tag : (List UInt8)
  Plate : (List UInt8)
  Class : Int
  Score : Int
  Sources : (List Tapi_Source)
def Tapi_Passage.enc (x : Tapi_Passage) : List AV := [.str x.ID, .str x.Point, .int .i64 x.Time, .str x.Tag, .str x.Plate, .int .i64 x.Class, .int .i64 x.Score, .lst (fl Tapi_Source.enc x.Sources) x.Sources.length]
structure Tapi_Detection where
  Device : (List UInt8)
  Seq : Int
  Time : Int
  Tag : (List UInt8)
  Plate : (List UInt8)
  Axles : Int
  Score : Int
def Tapi_Detection.enc (x : Tapi_Detection) : List AV := [.str x.Device, .int .i64 x.Seq, .int .i64 x.Time, .str x.Tag, .str x.Plate, .int .i64 x.Axles, .int .i64 x.Score]
structure Tapi_Reject where
  D : Tapi_Detection
  Why : Int
def Tapi_Reject.enc (x : Tapi_Reject) : List AV := [.str x.D.Device, .int .i64 x.D.Seq, .int .i64 x.D.Time, .str x.D.Tag, .str x.D.Plate, .int .i64 x.D.Axles, .int .i64 x.D.Score, .int .i64 x.Why]
structure Tapi_Interval where
  From : Int
  To : Int
def Tapi_Interval.enc (x : Tapi_Interval) : List AV := [.int .i64 x.From, .int .i64 x.To]
structure Tapi_Stay where
  ID : (List UInt8)
  Zone : (List UInt8)
  Plate : (List UInt8)
  Time : Tapi_Interval
def Tapi_Stay.enc (x : Tapi_Stay) : List AV := [.str x.ID, .str x.Zone, .str x.Plate, .int .i64 x.Time.From, .int .i64 x.Time.To]
structure Tapi_Line where
  Text : (List UInt8)
  Cents : Int
def Tapi_Line.enc (x : Tapi_Line) : List AV := [.str x.Text, .int .i64 x.Cents]
structure Tapi_Charge where
  Key : (List UInt8)
  Vehicle : (List UInt8)
  System : (List UInt8)
  Class : Int
  Time : Int
  Lines : (List Tapi_Line)
  Cents : Int
def Tapi_Charge.enc (x : Tapi_Charge) : List AV := [.str x.Key, .str x.Vehicle, .str x.System, .int .i64 x.Class, .int .i64 x.Time, .lst (fl Tapi_Line.enc x.Lines) x.Lines.length, .int .i64 x.Cents]
structure Tapi_Exclusion where
  ID : (List UInt8)
  Why : Int
def Tapi_Exclusion.enc (x : Tapi_Exclusion) : List AV := [.str x.ID, .int .i64 x.Why]
structure Tapi_Result where
  Passages : (List Tapi_Passage)
  Rejects : (List Tapi_Reject)
  Trips : (List Tapi_Trip)
  Stays : (List Tapi_Stay)
  Charges : (List Tapi_Charge)
  Exclusions : (List Tapi_Exclusion)
def Tapi_Result.enc (x : Tapi_Result) : List AV := [.lst (fl Tapi_Passage.enc x.Passages) x.Passages.length, .lst (fl Tapi_Reject.enc x.Rejects) x.Rejects.length, .lst (fl Tapi_Trip.enc x.Trips) x.Trips.length, .lst (fl Tapi_Stay.enc x.Stays) x.Stays.length, .lst (fl Tapi_Charge.enc x.Charges) x.Charges.length, .lst (fl Tapi_Exclusion.enc x.Exclusions) x.Exclusions.length]
noncomputable def batch_Fates_L88_step (id_1 : (List UInt8)) (k8 : Nat) (r86 : (List (List UInt8))) : Nat → Option (Nat ⊕ (Int ⊕ Unit)) := fun k8 =>
  if (↑k8 : Int) < (↑r86.length : Int) then
    (r86[k8]?).bind fun x95 =>
    if id_1 = x95 then
      some (Sum.inr (Sum.inl (↑k8 : Int)))
    else
      if InR .i64 ((↑k8 : Int) + 1) then
        some (Sum.inl (k8 + 1))
      else none
  else
    some (Sum.inr (Sum.inr (())))
def batch_Fates_L88_H (id_1 : (List UInt8)) (k8 : Nat) (r86 : (List (List UInt8))) : Nat → St := fun (s : Nat) => S 19 [(0, .vec 0 r86.length 1), (1, .str id_1), (7, .int .i64 (↑r86.length : Int)), (8, .int .i64 (↑s : Int))] [(bV (fl e_str r86) 9)]
def batch_Fates_L88_h1 (k8 : Nat) (k8 : Nat) (x95 : (List UInt8)) : List CH := ((.br true) :: (cs 5 [.op none (.i k8), .op none (.v [.str x95]), .op none .a]))
def batch_Fates_L88_p2 (k8 : Nat) (r86 : (List (List UInt8))) (k8 : Nat) (x95 : (List UInt8)) : List Prop := [((decide ((↑k8 : Int) < (↑r86.length : Int))) = true), ((↑k8 : Int) = ((k8 : Nat) : Int) ∧ k8 < r86.length), (sub (fl e_str r86) k8 1 = [.str x95])]
theorem batch_Fates_L88_p2q (k8 : Nat) (r86 : (List (List UInt8))) (k8 : Nat) (c94 : (↑k8 : Int) < (↑r86.length : Int)) (x95 : (List UInt8)) (h96 : r86[k8]? = some x95) : allOk (batch_Fates_L88_p2 k8 r86 k8 x95) := ⟨(decide_eq_true c94), ⟨rfl, get_lt h96⟩, ok1 (fl_sub1 (f := e_str) (fun _ => rfl) h96 rfl)⟩
theorem batch_Fates_L88_0 (id_1 : (List UInt8)) (k8 : Nat) (r86 : (List (List UInt8))) (k8 : Nat) (c94 : (↑k8 : Int) < (↑r86.length : Int)) (x95 : (List UInt8)) (h96 : r86[k8]? = some x95) (c97 : id_1 = x95) : Does Tryz.prog GT 1 (bodyAt Tryz.prog 70 [1, 0, 1, 0, 0]) (batch_Fates_L88_H id_1 k8 r86 k8) .ret (S 19 [(4, .int .i64 (↑k8 : Int))] [(bV (fl e_str r86) 9)]) :=
  Does.of_viewM 1 400 ([.op none .a] ++ ((batch_Fates_L88_h1 k8 k8 x95) ++ ((.br true) :: (cs 2 [])))) [0] (ps := ((batch_Fates_L88_p2 k8 r86 k8 x95) ++ [((id_1 == x95) = true)])) (by kernel_rfl) (by kernel_rfl) (allOk_append.2 ⟨(batch_Fates_L88_p2q k8 r86 k8 c94 x95 h96), (ok1 (beq_t c97))⟩)
theorem batch_Fates_L88_1 (id_1 : (List UInt8)) (k8 : Nat) (r86 : (List (List UInt8))) (k8 : Nat) (c94 : (↑k8 : Int) < (↑r86.length : Int)) (x95 : (List UInt8)) (h96 : r86[k8]? = some x95) (c97 : ¬ (id_1 = x95)) (h98 : InR .i64 ((↑k8 : Int) + 1)) : Does Tryz.prog GT 1 (bodyAt Tryz.prog 70 [1, 0, 1, 0, 0]) (batch_Fates_L88_H id_1 k8 r86 k8) .normal (S 19 [(0, .vec 0 r86.length 1), (1, .str id_1), (7, .int .i64 (↑r86.length : Int)), (8, .int .i64 ((↑k8 : Int) + 1))] [(bV (fl e_str r86) 9)]) :=
  Does.of_viewM 1 400 ([.op none .a] ++ ((batch_Fates_L88_h1 k8 k8 x95) ++ [.br false, .op none .w, .op none .c])) [0] (ps := ((batch_Fates_L88_p2 k8 r86 k8 x95) ++ [((id_1 == x95) = false), (IntKind.min .i64 ≤ ((↑k8 : Int) + 1) ∧ ((↑k8 : Int) + 1) ≤ IntKind.max .i64)])) (by kernel_rfl) (by kernel_rfl) (allOk_append.2 ⟨(batch_Fates_L88_p2q k8 r86 k8 c94 x95 h96), ⟨(beq_f c97), ok1 h98⟩⟩)
theorem batch_Fates_L88_2 (id_1 : (List UInt8)) (k8 : Nat) (r86 : (List (List UInt8))) (k8 : Nat) (c94 : ¬ ((↑k8 : Int) < (↑r86.length : Int))) : Does Tryz.prog GT 1 (bodyAt Tryz.prog 70 [1, 0, 1, 0, 0]) (batch_Fates_L88_H id_1 k8 r86 k8) (.exit 0) (S 19 [] [(bV (fl e_str r86) 9)]) :=
  Does.of_viewM 1 400 ([.op none .a] ++ [.br false]) [0] (ps := [((decide ((↑k8 : Int) < (↑r86.length : Int))) = false)]) (by kernel_rfl) (by kernel_rfl) (ok1 (decide_eq_false c94))
def batch_Fates_L88_X (id_1 : (List UInt8)) (k8 : Nat) (r86 : (List (List UInt8))) : (Int ⊕ Unit) → AEx := fun q => match q with | Sum.inl o => .ret | Sum.inr (o) => (.exit 0)
def batch_Fates_L88_E (id_1 : (List UInt8)) (k8 : Nat) (r86 : (List (List UInt8))) : (Int ⊕ Unit) → St := fun q => match q with | Sum.inl o => S 19 [(4, .int .i64 o)] [(bV (fl e_str r86) 9)] | Sum.inr (o) => S 19 [] [(bV (fl e_str r86) 9)]
theorem batch_Fates_L88_does (id_1 : (List UInt8)) (k8 : Nat) (r86 : (List (List UInt8))) {s : Nat} {r : Int ⊕ Unit} (h : lp (batch_Fates_L88_step id_1 k8 r86) s = some r) : Does Tryz.prog GT 1 (.loop (bodyAt Tryz.prog 70 [1, 0, 1, 0, 0])) (batch_Fates_L88_H id_1 k8 r86 s) (batch_Fates_L88_X id_1 k8 r86 r) (batch_Fates_L88_E id_1 k8 r86 r) := by
  refine Does.lp (H := batch_Fates_L88_H id_1 k8 r86) (X := batch_Fates_L88_X id_1 k8 r86) (E := batch_Fates_L88_E id_1 k8 r86) (fun s s2 h => ?_) (fun s r h => ?_) h
  · revert h; revert s; intro k8 h
    unfold batch_Fates_L88_step at h
    try dsimp only at h
    rcases ite_some h with ⟨c94, h⟩ | ⟨c94, h⟩
    · obtain ⟨x95, h96, h⟩ := bind_some h
      rcases ite_some h with ⟨c97, h⟩ | ⟨c97, h⟩
      · simp at h
      · obtain ⟨h98, h⟩ := guard_some h
        simp only [Option.some.injEq, Sum.inl.injEq] at h
        subst h
        have hq := batch_Fates_L88_1 id_1 k8 r86 k8 c94 x95 h96 c97 h98
        first | exact hq | exact Eq.mp (by simp only [batch_Fates_L88_H, List.length_set] <;> rfl) hq
    · simp at h
  · revert h; revert s; intro k8 h
    unfold batch_Fates_L88_step at h
    try dsimp only at h
    rcases ite_some h with ⟨c94, h⟩ | ⟨c94, h⟩
    · obtain ⟨x95, h96, h⟩ := bind_some h
      rcases ite_some h with ⟨c97, h⟩ | ⟨c97, h⟩
      · simp only [Option.some.injEq, Sum.inr.injEq] at h
        subst h
        exact ⟨batch_Fates_L88_0 id_1 k8 r86 k8 c94 x95 h96 c97, by intro q; cases q⟩
      · obtain ⟨h98, h⟩ := guard_some h
        simp at h
    · simp only [Option.some.injEq, Sum.inr.injEq] at h
      subst h
      exact ⟨batch_Fates_L88_2 id_1 k8 r86 k8 c94, by intro q; cases q⟩
noncomputable def batch_Fates_L58_step (r_0 : Tapi_Result) (id_1 : (List UInt8)) (x56 : Tapi_Charge) : Nat → Option (Nat ⊕ (Int ⊕ Unit)) := fun k8 =>
  if (↑k8 : Int) < (↑r_0.Trips.length : Int) then
    (r_0.Trips[k8]?).bind fun x82 =>
    if ([116, 58] : List UInt8).length + x82.ID.length ≤ 9223372036854775807 then
      if x56.Key = (([116, 58] : List UInt8) ++ x82.ID) then
        (trip_Passages x82).bind fun r86 =>
        (lp (batch_Fates_L88_step id_1 k8 r86) (0 : Nat)).bind fun qq => match qq with
        | Sum.inl o88 =>
          if o88 ≥ (0 : Int) then
            some (Sum.inr (Sum.inl (↑k8 : Int)))
          else
            if InR .i64 ((↑k8 : Int) + 1) then
              some (Sum.inl (k8 + 1))
            else none
        | Sum.inr (o88) =>
          if InR .i64 ((↑k8 : Int) + 1) then
            some (Sum.inl (k8 + 1))
          else none
      else
        if InR .i64 ((↑k8 : Int) + 1) then
          some (Sum.inl (k8 + 1))
        else none
    else none
  else
    some (Sum.inr (Sum.inr (())))
def batch_Fates_L58_H (r_0 : Tapi_Result) (id_1 : (List UInt8)) (x56 : Tapi_Charge) : Nat → St := fun (s : Nat) => S 19 [(0, .lst (fl Tapi_Trip.enc r_0.Trips) r_0.Trips.length), (1, .fn (.func 16) [] [.ptr 0 0, .ptr 1 0]), (7, .int .i64 (↑r_0.Trips.length : Int)), (8, .int .i64 (↑s : Int))] [(bT (Tapi_Charge.enc x56) 86), (bT [.str id_1] 9)]
def batch_Fates_L58_h1 (k8 : Nat) (x82 : Tapi_Trip) : List CH := ((.br true) :: (cs 5 ((.op none (.i k8)) :: (.op none (.v [.str x82.ID, .str x82.Vehicle, .str x82.System, .int .i64 x82.Class, .lst (fl Tapi_Stop.enc x82.Stops) x82.Stops.length])) :: (cs 7 [.op none .a, .op none .a, .op none .c]))))
def batch_Fates_L58_h2 (x82 : Tapi_Trip) (r86 : (List (List UInt8))) : List CH := ((.op (some true) .c) :: (.ret (some true) [.agg (Tapi_Trip.enc x82)] (.vec 0 r86.length 1) [(bV (fl e_str r86) 9)]) :: (.op (some true) .c) :: (.op (some true) .c) :: (cs 8 []))
def batch_Fates_L58_h3 (id_1 : (List UInt8)) (r86 : (List (List UInt8))) (o88 : Int) : List CH := [.fcut 1 .ret [(4, .int .i64 o88)] [(bV (fl e_str r86) 9)] [3] [(0, .vec 0 r86.length 1), (1, .str id_1), (7, .int .i64 (↑r86.length : Int)), (8, .int .i64 (↑(0 : Nat) : Int))] [(bV (fl e_str r86) 9)], .op none .a, .op none .c, .op none (.b true), .op none .c]
def batch_Fates_L58_p4 (r_0 : Tapi_Result) (k8 : Nat) (x82 : Tapi_Trip) : List Prop := [((decide ((↑k8 : Int) < (↑r_0.Trips.length : Int))) = true), ((↑k8 : Int) = ((k8 : Nat) : Int) ∧ k8 < r_0.Trips.length), ((fl Tapi_Trip.enc r_0.Trips) ≠ []), (sub (fl Tapi_Trip.enc r_0.Trips) (k8 * 5) 5 = [.str x82.ID, .str x82.Vehicle, .str x82.System, .int .i64 x82.Class, .lst (fl Tapi_Stop.enc x82.Stops) x82.Stops.length]), (([116, 58] : List UInt8).length + x82.ID.length ≤ 9223372036854775807)]
theorem batch_Fates_L58_p4q (r_0 : Tapi_Result) (k8 : Nat) (c81 : (↑k8 : Int) < (↑r_0.Trips.length : Int)) (x82 : Tapi_Trip) (h83 : r_0.Trips[k8]? = some x82) (h84 : ([116, 58] : List UInt8).length + x82.ID.length ≤ 9223372036854775807) : allOk (batch_Fates_L58_p4 r_0 k8 x82) := ⟨(decide_eq_true c81), ⟨rfl, get_lt h83⟩, (fl_ne (f := Tapi_Trip.enc) (z := 4) (fun _ => rfl) h83), (fl_sub0 (f := Tapi_Trip.enc) (z := 5) (j := k8) (fun _ => rfl) h83 rfl), ok1 h84⟩
def batch_Fates_L58_p5 (id_1 : (List UInt8)) (x56 : Tapi_Charge) (x82 : Tapi_Trip) (r86 : (List (List UInt8))) : List Prop := [((x56.Key == (([116, 58] : List UInt8) ++ x82.ID)) = true), ((x56.Key == (([116, 58] : List UInt8) ++ x82.ID)) = true), ((.agg (Tapi_Trip.enc x82) : AV) = .agg (Tapi_Trip.enc x82)), (Ret Tryz.prog GT 18 [.agg (Tapi_Trip.enc x82)] (.vec 0 r86.length 1) [(bV (fl e_str r86) 9)]), ((x56.Key == (([116, 58] : List UInt8) ++ x82.ID)) = true), ((x56.Key == (([116, 58] : List UInt8) ++ x82.ID)) = true), ((.vec 3 r86.length 1 : AV) = .vec 3 r86.length 1), ((.str id_1 : AV) = .str id_1), ((.int .i64 (↑r86.length : Int) : AV) = .int .i64 (↑r86.length : Int)), ((.int .i64 0 : AV) = .int .i64 (↑(0 : Nat) : Int)), (((bV (fl e_str r86) 9) : Blk) = renB [3] (bV (fl e_str r86) 9))]
theorem batch_Fates_L58_p5q (id_1 : (List UInt8)) (x56 : Tapi_Charge) (x82 : Tapi_Trip) (c85 : x56.Key = (([116, 58] : List UInt8) ++ x82.ID)) (r86 : (List (List UInt8))) (h87 : trip_Passages x82 = some r86) : allOk (batch_Fates_L58_p5 id_1 x56 x82 r86) := ⟨(beq_t c85), (beq_t c85), rfl, (trip_Passages_ret x82 r86 h87), (beq_t c85), (beq_t c85), (by first | rfl | simp only [List.length_replicate, List.length_set]), rfl, rfl, rfl, ok1 rfl⟩
def batch_Fates_L58_p6 (id_1 : (List UInt8)) (x56 : Tapi_Charge) (x82 : Tapi_Trip) (r86 : (List (List UInt8))) (o88 : Int) : List Prop := [(Does Tryz.prog GT 1 (.loop (bodyAt Tryz.prog 70 [1, 0, 1, 0, 0])) (S 19 [(0, .vec 0 r86.length 1), (1, .str id_1), (7, .int .i64 (↑r86.length : Int)), (8, .int .i64 (↑(0 : Nat) : Int))] [(bV (fl e_str r86) 9)]) .ret (S 19 [(4, .int .i64 o88)] [(bV (fl e_str r86) 9)])), ((some (Ob.blk (bV (fl e_str r86) 9)) = some (Ob.blk (bV (fl e_str r86) 9))) ∧ True), ((x56.Key == (([116, 58] : List UInt8) ++ x82.ID)) = true)]
theorem batch_Fates_L58_p6q (id_1 : (List UInt8)) (x56 : Tapi_Charge) (k8 : Nat) (x82 : Tapi_Trip) (c85 : x56.Key = (([116, 58] : List UInt8) ++ x82.ID)) (r86 : (List (List UInt8))) (o88 : Int) (hl88 : lp (batch_Fates_L88_step id_1 k8 r86) (0 : Nat) = some (Sum.inl o88)) : allOk (batch_Fates_L58_p6 id_1 x56 x82 r86 o88) := ⟨(batch_Fates_L88_does id_1 k8 r86 (s := (0 : Nat)) (r := Sum.inl o88) hl88), ⟨rfl, trivial⟩, ok1 (beq_t c85)⟩
theorem batch_Fates_L58_0 (r_0 : Tapi_Result) (id_1 : (List UInt8)) (x56 : Tapi_Charge) (k8 : Nat) (c81 : (↑k8 : Int) < (↑r_0.Trips.length : Int)) (x82 : Tapi_Trip) (h83 : r_0.Trips[k8]? = some x82) (h84 : ([116, 58] : List UInt8).length + x82.ID.length ≤ 9223372036854775807) (c85 : x56.Key = (([116, 58] : List UInt8) ++ x82.ID)) (r86 : (List (List UInt8))) (h87 : trip_Passages x82 = some r86) (o88 : Int) (hl88 : lp (batch_Fates_L88_step id_1 k8 r86) (0 : Nat) = some (Sum.inl o88)) (c99 : o88 ≥ (0 : Int)) : Does Tryz.prog GT 2 (bodyAt Tryz.prog 69 [1, 0, 1, 0, 0]) (batch_Fates_L58_H r_0 id_1 x56 k8) .ret (S 19 [(4, .int .i64 (↑k8 : Int))] [(bT (Tapi_Charge.enc x56) 86), (bT [.str id_1] 9)]) :=
  Does.of_viewM 2 400 ([.op none .a] ++ ((batch_Fates_L58_h1 k8 x82) ++ ((batch_Fates_L58_h2 x82 r86) ++ ((batch_Fates_L58_h3 id_1 r86 o88) ++ ((.br true) :: (cs 2 [])))))) [0, 1] (ps := ((batch_Fates_L58_p4 r_0 k8 x82) ++ ((batch_Fates_L58_p5 id_1 x56 x82 r86) ++ ((batch_Fates_L58_p6 id_1 x56 x82 r86 o88) ++ [((decide (o88 ≥ (0 : Int))) = true)])))) (by kernel_rfl) (by kernel_rfl) (allOk_append.2 ⟨(batch_Fates_L58_p4q r_0 k8 c81 x82 h83 h84), (allOk_append.2 ⟨(batch_Fates_L58_p5q id_1 x56 x82 c85 r86 h87), (allOk_append.2 ⟨(batch_Fates_L58_p6q id_1 x56 k8 x82 c85 r86 o88 hl88), (ok1 (decide_eq_true c99))⟩)⟩)⟩)
theorem batch_Fates_L58_1 (r_0 : Tapi_Result) (id_1 : (List UInt8)) (x56 : Tapi_Charge) (k8 : Nat) (c81 : (↑k8 : Int) < (↑r_0.Trips.length : Int)) (x82 : Tapi_Trip) (h83 : r_0.Trips[k8]? = some x82) (h84 : ([116, 58] : List UInt8).length + x82.ID.length ≤ 9223372036854775807) (c85 : x56.Key = (([116, 58] : List UInt8) ++ x82.ID)) (r86 : (List (List UInt8))) (h87 : trip_Passages x82 = some r86) (o88 : Int) (hl88 : lp (batch_Fates_L88_step id_1 k8 r86) (0 : Nat) = some (Sum.inl o88)) (c99 : ¬ (o88 ≥ (0 : Int))) (h100 : InR .i64 ((↑k8 : Int) + 1)) : Does Tryz.prog GT 2 (bodyAt Tryz.prog 69 [1, 0, 1, 0, 0]) (batch_Fates_L58_H r_0 id_1 x56 k8) .normal (S 19 [(0, .lst (fl Tapi_Trip.enc r_0.Trips) r_0.Trips.length), (1, .fn (.func 16) [] [.ptr 0 0, .ptr 1 0]), (7, .int .i64 (↑r_0.Trips.length : Int)), (8, .int .i64 ((↑k8 : Int) + 1))] [(bT (Tapi_Charge.enc x56) 86), (bT [.str id_1] 9)]) :=
  Does.of_viewM 2 400 ([.op none .a] ++ ((batch_Fates_L58_h1 k8 x82) ++ ((batch_Fates_L58_h2 x82 r86) ++ ((batch_Fates_L58_h3 id_1 r86 o88) ++ [.br false, .op none .w, .op none .c])))) [0, 1] (ps := ((batch_Fates_L58_p4 r_0 k8 x82) ++ ((batch_Fates_L58_p5 id_1 x56 x82 r86) ++ ((batch_Fates_L58_p6 id_1 x56 x82 r86 o88) ++ [((decide (o88 ≥ (0 : Int))) = false), (IntKind.min .i64 ≤ ((↑k8 : Int) + 1) ∧ ((↑k8 : Int) + 1) ≤ IntKind.max .i64)])))) (by kernel_rfl) (by kernel_rfl) (allOk_append.2 ⟨(batch_Fates_L58_p4q r_0 k8 c81 x82 h83 h84), (allOk_append.2 ⟨(batch_Fates_L58_p5q id_1 x56 x82 c85 r86 h87), (allOk_append.2 ⟨(batch_Fates_L58_p6q id_1 x56 k8 x82 c85 r86 o88 hl88), ⟨(decide_eq_false c99), ok1 h100⟩⟩)⟩)⟩)
theorem batch_Fates_L58_2 (r_0 : Tapi_Result) (id_1 : (List UInt8)) (x56 : Tapi_Charge) (k8 : Nat) (c81 : (↑k8 : Int) < (↑r_0.Trips.length : Int)) (x82 : Tapi_Trip) (h83 : r_0.Trips[k8]? = some x82) (h84 : ([116, 58] : List UInt8).length + x82.ID.length ≤ 9223372036854775807) (c85 : x56.Key = (([116, 58] : List UInt8) ++ x82.ID)) (r86 : (List (List UInt8))) (h87 : trip_Passages x82 = some r86) (o88 : Unit) (hl88 : lp (batch_Fates_L88_step id_1 k8 r86) (0 : Nat) = some (Sum.inr (o88))) (h101 : InR .i64 ((↑k8 : Int) + 1)) : Does Tryz.prog GT 2 (bodyAt Tryz.prog 69 [1, 0, 1, 0, 0]) (batch_Fates_L58_H r_0 id_1 x56 k8) .normal (S 19 [(0, .lst (fl Tapi_Trip.enc r_0.Trips) r_0.Trips.length), (1, .fn (.func 16) [] [.ptr 0 0, .ptr 1 0]), (7, .int .i64 (↑r_0.Trips.length : Int)), (8, .int .i64 ((↑k8 : Int) + 1))] [(bT (Tapi_Charge.enc x56) 86), (bT [.str id_1] 9)]) :=
  Does.of_viewM 2 400 ([.op none .a] ++ ((batch_Fates_L58_h1 k8 x82) ++ ((batch_Fates_L58_h2 x82 r86) ++ ((.fcut 1 (.exit 0) [] [(bV (fl e_str r86) 9)] [3] [(0, .vec 0 r86.length 1), (1, .str id_1), (7, .int .i64 (↑r86.length : Int)), (8, .int .i64 (↑(0 : Nat) : Int))] [(bV (fl e_str r86) 9)]) :: (cs 3 [.op none (.b true), .op none .c, .br false, .op none .w, .op none .c]))))) [0, 1] (ps := ((batch_Fates_L58_p4 r_0 k8 x82) ++ ((batch_Fates_L58_p5 id_1 x56 x82 r86) ++ [(Does Tryz.prog GT 1 (.loop (bodyAt Tryz.prog 70 [1, 0, 1, 0, 0])) (S 19 [(0, .vec 0 r86.length 1), (1, .str id_1), (7, .int .i64 (↑r86.length : Int)), (8, .int .i64 (↑(0 : Nat) : Int))] [(bV (fl e_str r86) 9)]) (.exit 0) (S 19 [] [(bV (fl e_str r86) 9)])), ((some (Ob.blk (bV (fl e_str r86) 9)) = some (Ob.blk (bV (fl e_str r86) 9))) ∧ True), ((x56.Key == (([116, 58] : List UInt8) ++ x82.ID)) = true), (false = false), (IntKind.min .i64 ≤ ((↑k8 : Int) + 1) ∧ ((↑k8 : Int) + 1) ≤ IntKind.max .i64)]))) (by kernel_rfl) (by kernel_rfl) (allOk_append.2 ⟨(batch_Fates_L58_p4q r_0 k8 c81 x82 h83 h84), (allOk_append.2 ⟨(batch_Fates_L58_p5q id_1 x56 x82 c85 r86 h87), ⟨(batch_Fates_L88_does id_1 k8 r86 (s := (0 : Nat)) (r := Sum.inr (o88)) hl88), ⟨rfl, trivial⟩, (beq_t c85), rfl, ok1 h101⟩⟩)⟩)
theorem batch_Fates_L58_3 (r_0 : Tapi_Result) (id_1 : (List UInt8)) (x56 : Tapi_Charge) (k8 : Nat) (c81 : (↑k8 : Int) < (↑r_0.Trips.length : Int)) (x82 : Tapi_Trip) (h83 : r_0.Trips[k8]? = some x82) (h84 : ([116, 58] : List UInt8).length + x82.ID.length ≤ 9223372036854775807) (c85 : ¬ (x56.Key = (([116, 58] : List UInt8) ++ x82.ID))) (h102 : InR .i64 ((↑k8 : Int) + 1)) : Does Tryz.prog GT 2 (bodyAt Tryz.prog 69 [1, 0, 1, 0, 0]) (batch_Fates_L58_H r_0 id_1 x56 k8) .normal (S 19 [(0, .lst (fl Tapi_Trip.enc r_0.Trips) r_0.Trips.length), (1, .fn (.func 16) [] [.ptr 0 0, .ptr 1 0]), (7, .int .i64 (↑r_0.Trips.length : Int)), (8, .int .i64 ((↑k8 : Int) + 1))] [(bT (Tapi_Charge.enc x56) 86), (bT [.str id_1] 9)]) :=
  Does.of_viewM 2 400 ([.op none .a] ++ ((batch_Fates_L58_h1 k8 x82) ++ [.op (some false) .c, .op (some false) .c, .op (some false) .c, .op (some false) .c, .op none (.b false), .op none .c, .br false, .op none .w, .op none .c])) [0, 1] (ps := ((batch_Fates_L58_p4 r_0 k8 x82) ++ [((x56.Key == (([116, 58] : List UInt8) ++ x82.ID)) = false), ((x56.Key == (([116, 58] : List UInt8) ++ x82.ID)) = false), ((x56.Key == (([116, 58] : List UInt8) ++ x82.ID)) = false), ((x56.Key == (([116, 58] : List UInt8) ++ x82.ID)) = false), ((x56.Key == (([116, 58] : List UInt8) ++ x82.ID)) = false), (false = false), (IntKind.min .i64 ≤ ((↑k8 : Int) + 1) ∧ ((↑k8 : Int) + 1) ≤ IntKind.max .i64)])) (by kernel_rfl) (by kernel_rfl) (allOk_append.2 ⟨(batch_Fates_L58_p4q r_0 k8 c81 x82 h83 h84), ⟨(beq_f c85), (beq_f c85), (beq_f c85), (beq_f c85), (beq_f c85), rfl, ok1 h102⟩⟩)
theorem batch_Fates_L58_4 (r_0 : Tapi_Result) (id_1 : (List UInt8)) (x56 : Tapi_Charge) (k8 : Nat) (c81 : ¬ ((↑k8 : Int) < (↑r_0.Trips.length : Int))) : Does Tryz.prog GT 2 (bodyAt Tryz.prog 69 [1, 0, 1, 0, 0]) (batch_Fates_L58_H r_0 id_1 x56 k8) (.exit 0) (S 19 [] [(bT (Tapi_Charge.enc x56) 86), (bT [.str id_1] 9)]) :=
  Does.of_viewM 2 400 ([.op none .a] ++ [.br false]) [0, 1] (ps := [((decide ((↑k8 : Int) < (↑r_0.Trips.length : Int))) = false)]) (by kernel_rfl) (by kernel_rfl) (ok1 (decide_eq_false c81))
def batch_Fates_L58_X (r_0 : Tapi_Result) (id_1 : (List UInt8)) (x56 : Tapi_Charge) : (Int ⊕ Unit) → AEx := fun q => match q with | Sum.inl o => .ret | Sum.inr (o) => (.exit 0)
def batch_Fates_L58_E (r_0 : Tapi_Result) (id_1 : (List UInt8)) (x56 : Tapi_Charge) : (Int ⊕ Unit) → St := fun q => match q with | Sum.inl o => S 19 [(4, .int .i64 o)] [(bT (Tapi_Charge.enc x56) 86), (bT [.str id_1] 9)] | Sum.inr (o) => S 19 [] [(bT (Tapi_Charge.enc x56) 86), (bT [.str id_1] 9)]
theorem batch_Fates_L58_does (r_0 : Tapi_Result) (id_1 : (List UInt8)) (x56 : Tapi_Charge) {s : Nat} {r : Int ⊕ Unit} (h : lp (batch_Fates_L58_step r_0 id_1 x56) s = some r) : Does Tryz.prog GT 2 (.loop (bodyAt Tryz.prog 69 [1, 0, 1, 0, 0])) (batch_Fates_L58_H r_0 id_1 x56 s) (batch_Fates_L58_X r_0 id_1 x56 r) (batch_Fates_L58_E r_0 id_1 x56 r) := by
  refine Does.lp (H := batch_Fates_L58_H r_0 id_1 x56) (X := batch_Fates_L58_X r_0 id_1 x56) (E := batch_Fates_L58_E r_0 id_1 x56) (fun s s2 h => ?_) (fun s r h => ?_) h
  · revert h; revert s; intro k8 h
    unfold batch_Fates_L58_step at h
    try dsimp only at h
    rcases ite_some h with ⟨c81, h⟩ | ⟨c81, h⟩
    · obtain ⟨x82, h83, h⟩ := bind_some h
      obtain ⟨h84, h⟩ := guard_some h
      rcases ite_some h with ⟨c85, h⟩ | ⟨c85, h⟩
      · obtain ⟨r86, h87, h⟩ := bind_some h
        obtain ⟨qq, hl88, h⟩ := bind_some h
        rcases qq with o88 | o88
        · dsimp only at h
          rcases ite_some h with ⟨c99, h⟩ | ⟨c99, h⟩
          · simp at h
          · obtain ⟨h100, h⟩ := guard_some h
            simp only [Option.some.injEq, Sum.inl.injEq] at h
            subst h
            have hq := batch_Fates_L58_1 r_0 id_1 x56 k8 c81 x82 h83 h84 c85 r86 h87 o88 hl88 c99 h100
            first | exact hq | exact Eq.mp (by simp only [batch_Fates_L58_H, List.length_set] <;> rfl) hq
        · dsimp only at h
          obtain ⟨h101, h⟩ := guard_some h
          simp only [Option.some.injEq, Sum.inl.injEq] at h
          subst h
          have hq := batch_Fates_L58_2 r_0 id_1 x56 k8 c81 x82 h83 h84 c85 r86 h87 o88 hl88 h101
          first | exact hq | exact Eq.mp (by simp only [batch_Fates_L58_H, List.length_set] <;> rfl) hq
      · obtain ⟨h102, h⟩ := guard_some h
        simp only [Option.some.injEq, Sum.inl.injEq] at h
        subst h
        have hq := batch_Fates_L58_3 r_0 id_1 x56 k8 c81 x82 h83 h84 c85 h102
        first | exact hq | exact Eq.mp (by simp only [batch_Fates_L58_H, List.length_set] <;> rfl) hq
    · simp at h
  · revert h; revert s; intro k8 h
    unfold batch_Fates_L58_step at h
    try dsimp only at h
    rcases ite_some h with ⟨c81, h⟩ | ⟨c81, h⟩
    · obtain ⟨x82, h83, h⟩ := bind_some h
      obtain ⟨h84, h⟩ := guard_some h
      rcases ite_some h with ⟨c85, h⟩ | ⟨c85, h⟩
      · obtain ⟨r86, h87, h⟩ := bind_some h
        obtain ⟨qq, hl88, h⟩ := bind_some h
        rcases qq with o88 | o88
        · dsimp only at h
          rcases ite_some h with ⟨c99, h⟩ | ⟨c99, h⟩
          · simp only [Option.some.injEq, Sum.inr.injEq] at h
            subst h
            exact ⟨batch_Fates_L58_0 r_0 id_1 x56 k8 c81 x82 h83 h84 c85 r86 h87 o88 hl88 c99, by intro q; cases q⟩
          · obtain ⟨h100, h⟩ := guard_some h
            simp at h
        · dsimp only at h
          obtain ⟨h101, h⟩ := guard_some h
          simp at h
      · obtain ⟨h102, h⟩ := guard_some h
        simp at h
    · simp only [Option.some.injEq, Sum.inr.injEq] at h
      subst h
      exact ⟨batch_Fates_L58_4 r_0 id_1 x56 k8 c81, by intro q; cases q⟩
noncomputable def batch_Fates_L1_step (r_0 : Tapi_Result) (id_1 : (List UInt8)) : (Nat × (List (List UInt8))) → Option ((Nat × (List (List UInt8))) ⊕ (List (List UInt8)))
  | (k13, b2) =>
    if (↑k13 : Int) < (↑r_0.Charges.length : Int) then
      (r_0.Charges[k13]?).bind fun x56 =>
      (lp (batch_Fates_L58_step r_0 id_1 x56) (0 : Nat)).bind fun qq => match qq with
      | Sum.inl o58 =>
        if o58 ≥ (0 : Int) then
          if b2.length + 1 ≤ 8796093022000 then
            if InR .i64 ((↑k13 : Int) + 1) then
              some (Sum.inl ((k13 + 1), (b2 ++ [x56.Key])))
            else none
          else none
        else
          if InR .i64 ((↑k13 : Int) + 1) then
            some (Sum.inl ((k13 + 1), b2))
          else none
      | Sum.inr (o58) =>
        if InR .i64 ((↑k13 : Int) + 1) then
          some (Sum.inl ((k13 + 1), b2))
        else none
    else
      some (Sum.inr b2)
def batch_Fates_L1_H (r_0 : Tapi_Result) (id_1 : (List UInt8)) : (Nat × (List (List UInt8))) → St := fun (s : (Nat × (List (List UInt8)))) => S 49 [(2, .ptr 0 0), (3, .ptr 1 0), (5, .vec 2 s.2.length 1), (11, .lst (fl Tapi_Charge.enc r_0.Charges) r_0.Charges.length), (12, .int .i64 (↑r_0.Charges.length : Int)), (13, .int .i64 (↑s.1 : Int))] [(bT (Tapi_Result.enc r_0) 29), (bT [.str id_1] 9), (bV (fl e_str s.2) 9)]
def batch_Fates_L1_h1 (k13 : Nat) (x56 : Tapi_Charge) : List CH := ((.br true) :: (.op none (.i k13)) :: (.op none (.v [.str x56.Key, .str x56.Vehicle, .str x56.System, .int .i64 x56.Class, .int .i64 x56.Time, .lst (fl Tapi_Line.enc x56.Lines) x56.Lines.length, .int .i64 x56.Cents])) :: (cs 14 []))
def batch_Fates_L1_h2 (r_0 : Tapi_Result) (id_1 : (List UInt8)) (x56 : Tapi_Charge) (o58 : Int) : List CH := [.fcut 2 .ret [(4, .int .i64 o58)] [(bT (Tapi_Charge.enc x56) 86), (bT [.str id_1] 9)] [3, 1] [(0, .lst (fl Tapi_Trip.enc r_0.Trips) r_0.Trips.length), (1, .fn (.func 16) [] [.ptr 0 0, .ptr 1 0]), (7, .int .i64 (↑r_0.Trips.length : Int)), (8, .int .i64 (↑(0 : Nat) : Int))] [(bT (Tapi_Charge.enc x56) 86), (bT [.str id_1] 9)], .op none .a, .op none .c]
def batch_Fates_L1_p3 (r_0 : Tapi_Result) (id_1 : (List UInt8)) (k13 : Nat) (x56 : Tapi_Charge) : List Prop := [((decide ((↑k13 : Int) < (↑r_0.Charges.length : Int))) = true), ((↑k13 : Int) = ((k13 : Nat) : Int) ∧ k13 < r_0.Charges.length), ((fl Tapi_Charge.enc r_0.Charges) ≠ []), (sub (fl Tapi_Charge.enc r_0.Charges) (k13 * 7) 7 = [.str x56.Key, .str x56.Vehicle, .str x56.System, .int .i64 x56.Class, .int .i64 x56.Time, .lst (fl Tapi_Line.enc x56.Lines) x56.Lines.length, .int .i64 x56.Cents]), ((.lst (fl Tapi_Trip.enc r_0.Trips) r_0.Trips.length : AV) = .lst (fl Tapi_Trip.enc r_0.Trips) r_0.Trips.length), ((.fn (.func 16) [] [.ptr 3 0, .ptr 1 0] : AV) = .fn (.func 16) [] [.ptr 3 0, .ptr 1 0]), ((.int .i64 (↑r_0.Trips.length : Int) : AV) = .int .i64 (↑r_0.Trips.length : Int)), ((.int .i64 0 : AV) = .int .i64 (↑(0 : Nat) : Int)), (((bT (Tapi_Charge.enc x56) 86) : Blk) = renB [3, 1] (bT (Tapi_Charge.enc x56) 86)), (((bT [.str id_1] 9) : Blk) = renB [3, 1] (bT [.str id_1] 9))]
theorem batch_Fates_L1_p3q (r_0 : Tapi_Result) (id_1 : (List UInt8)) (k13 : Nat) (c55 : (↑k13 : Int) < (↑r_0.Charges.length : Int)) (x56 : Tapi_Charge) (h57 : r_0.Charges[k13]? = some x56) : allOk (batch_Fates_L1_p3 r_0 id_1 k13 x56) := ⟨(decide_eq_true c55), ⟨rfl, get_lt h57⟩, (fl_ne (f := Tapi_Charge.enc) (z := 6) (fun _ => rfl) h57), (fl_sub0 (f := Tapi_Charge.enc) (z := 7) (j := k13) (fun _ => rfl) h57 rfl), rfl, rfl, rfl, rfl, rfl, ok1 rfl⟩
theorem batch_Fates_L1_0 (r_0 : Tapi_Result) (id_1 : (List UInt8)) (k13 : Nat) (b2 : (List (List UInt8))) (c55 : (↑k13 : Int) < (↑r_0.Charges.length : Int)) (x56 : Tapi_Charge) (h57 : r_0.Charges[k13]? = some x56) (o58 : Int) (hl58 : lp (batch_Fates_L58_step r_0 id_1 x56) (0 : Nat) = some (Sum.inl o58)) (c103 : o58 ≥ (0 : Int)) (h104 : b2.length + 1 ≤ 8796093022000) (h105 : InR .i64 ((↑k13 : Int) + 1)) : Does Tryz.prog GT 2 (bodyAt Tryz.prog 6 [1, 1, 0, 1, 0, 0]) (batch_Fates_L1_H r_0 id_1 (k13, b2)) .normal (S 49 [(2, .ptr 0 0), (3, .ptr 1 0), (5, .vec 2 ((b2 ++ [x56.Key]).length) 1), (11, .lst (fl Tapi_Charge.enc r_0.Charges) r_0.Charges.length), (12, .int .i64 (↑r_0.Charges.length : Int)), (13, .int .i64 ((↑k13 : Int) + 1))] [(bT (Tapi_Result.enc r_0) 29), (bT [.str id_1] 9), (bV (fl e_str (b2 ++ [x56.Key])) 9)]) :=
  Does.of_viewM 2 400 ([.op none .a] ++ ((batch_Fates_L1_h1 k13 x56) ++ ((batch_Fates_L1_h2 r_0 id_1 x56 o58) ++ ((.br true) :: (cs 4 [.op none (.ap 4), .tr (.eqc 7 (fl e_str (b2 ++ [x56.Key]))), .tr (.eqt (.t 25) (.vec 7 ((b2 ++ [x56.Key]).length) 1)), .op none .c, .op none .w, .op none .c]))))) [0, 1, 7] (ps := ((batch_Fates_L1_p3 r_0 id_1 k13 x56) ++ ([(Does Tryz.prog GT 2 (.loop (bodyAt Tryz.prog 69 [1, 0, 1, 0, 0])) (S 19 [(0, .lst (fl Tapi_Trip.enc r_0.Trips) r_0.Trips.length), (1, .fn (.func 16) [] [.ptr 0 0, .ptr 1 0]), (7, .int .i64 (↑r_0.Trips.length : Int)), (8, .int .i64 (↑(0 : Nat) : Int))] [(bT (Tapi_Charge.enc x56) 86), (bT [.str id_1] 9)]) .ret (S 19 [(4, .int .i64 o58)] [(bT (Tapi_Charge.enc x56) 86), (bT [.str id_1] 9)]))] ++ [((decide (o58 ≥ (0 : Int))) = true), (0 + 1 ≤ List.length ([.str x56.Key] : List AV)), (List.length ((fl e_str b2) : List AV) = b2.length), (List.all ([.str x56.Key] : List AV) AV.one = true), (b2.length + 1 ≤ 8796093022000), ((fl e_str b2) ++ [.str x56.Key] = (fl e_str (b2 ++ [x56.Key]))), ((.vec 7 (b2.length + 1) 1 : AV) = .vec 7 ((b2 ++ [x56.Key]).length) 1), (IntKind.min .i64 ≤ ((↑k13 : Int) + 1) ∧ ((↑k13 : Int) + 1) ≤ IntKind.max .i64)]))) (by kernel_rfl) (by kernel_rfl) (allOk_append.2 ⟨(batch_Fates_L1_p3q r_0 id_1 k13 c55 x56 h57), (allOk_append.2 ⟨(ok1 (batch_Fates_L58_does r_0 id_1 x56 (s := (0 : Nat)) (r := Sum.inl o58) hl58)), ⟨(decide_eq_true c103), (Nat.le_of_ble_eq_true rfl), (fl_length1 (f := e_str) (fun _ => rfl) _), rfl, h104, (fl_snoc rfl), (by simp <;> omega), ok1 h105⟩⟩)⟩)
theorem batch_Fates_L1_1 (r_0 : Tapi_Result) (id_1 : (List UInt8)) (k13 : Nat) (b2 : (List (List UInt8))) (c55 : (↑k13 : Int) < (↑r_0.Charges.length : Int)) (x56 : Tapi_Charge) (h57 : r_0.Charges[k13]? = some x56) (o58 : Int) (hl58 : lp (batch_Fates_L58_step r_0 id_1 x56) (0 : Nat) = some (Sum.inl o58)) (c103 : ¬ (o58 ≥ (0 : Int))) (h106 : InR .i64 ((↑k13 : Int) + 1)) : Does Tryz.prog GT 2 (bodyAt Tryz.prog 6 [1, 1, 0, 1, 0, 0]) (batch_Fates_L1_H r_0 id_1 (k13, b2)) .normal (S 49 [(2, .ptr 0 0), (3, .ptr 1 0), (5, .vec 2 b2.length 1), (11, .lst (fl Tapi_Charge.enc r_0.Charges) r_0.Charges.length), (12, .int .i64 (↑r_0.Charges.length : Int)), (13, .int .i64 ((↑k13 : Int) + 1))] [(bT (Tapi_Result.enc r_0) 29), (bT [.str id_1] 9), (bV (fl e_str b2) 9)]) :=
  Does.of_viewM 2 400 ([.op none .a] ++ ((batch_Fates_L1_h1 k13 x56) ++ ((batch_Fates_L1_h2 r_0 id_1 x56 o58) ++ [.br false, .op none .w, .op none .c]))) [0, 1, 2] (ps := ((batch_Fates_L1_p3 r_0 id_1 k13 x56) ++ ([(Does Tryz.prog GT 2 (.loop (bodyAt Tryz.prog 69 [1, 0, 1, 0, 0])) (S 19 [(0, .lst (fl Tapi_Trip.enc r_0.Trips) r_0.Trips.length), (1, .fn (.func 16) [] [.ptr 0 0, .ptr 1 0]), (7, .int .i64 (↑r_0.Trips.length : Int)), (8, .int .i64 (↑(0 : Nat) : Int))] [(bT (Tapi_Charge.enc x56) 86), (bT [.str id_1] 9)]) .ret (S 19 [(4, .int .i64 o58)] [(bT (Tapi_Charge.enc x56) 86), (bT [.str id_1] 9)]))] ++ [((decide (o58 ≥ (0 : Int))) = false), (IntKind.min .i64 ≤ ((↑k13 : Int) + 1) ∧ ((↑k13 : Int) + 1) ≤ IntKind.max .i64)]))) (by kernel_rfl) (by kernel_rfl) (allOk_append.2 ⟨(batch_Fates_L1_p3q r_0 id_1 k13 c55 x56 h57), (allOk_append.2 ⟨(ok1 (batch_Fates_L58_does r_0 id_1 x56 (s := (0 : Nat)) (r := Sum.inl o58) hl58)), ⟨(decide_eq_false c103), ok1 h106⟩⟩)⟩)
theorem batch_Fates_L1_2 (r_0 : Tapi_Result) (id_1 : (List UInt8)) (k13 : Nat) (b2 : (List (List UInt8))) (c55 : (↑k13 : Int) < (↑r_0.Charges.length : Int)) (x56 : Tapi_Charge) (h57 : r_0.Charges[k13]? = some x56) (o58 : Unit) (hl58 : lp (batch_Fates_L58_step r_0 id_1 x56) (0 : Nat) = some (Sum.inr (o58))) (h107 : InR .i64 ((↑k13 : Int) + 1)) : Does Tryz.prog GT 2 (bodyAt Tryz.prog 6 [1, 1, 0, 1, 0, 0]) (batch_Fates_L1_H r_0 id_1 (k13, b2)) .normal (S 49 [(2, .ptr 0 0), (3, .ptr 1 0), (5, .vec 2 b2.length 1), (11, .lst (fl Tapi_Charge.enc r_0.Charges) r_0.Charges.length), (12, .int .i64 (↑r_0.Charges.length : Int)), (13, .int .i64 ((↑k13 : Int) + 1))] [(bT (Tapi_Result.enc r_0) 29), (bT [.str id_1] 9), (bV (fl e_str b2) 9)]) :=
  Does.of_viewM 2 400 ([.op none .a] ++ ((batch_Fates_L1_h1 k13 x56) ++ ((.fcut 2 (.exit 0) [] [(bT (Tapi_Charge.enc x56) 86), (bT [.str id_1] 9)] [3, 1] [(0, .lst (fl Tapi_Trip.enc r_0.Trips) r_0.Trips.length), (1, .fn (.func 16) [] [.ptr 0 0, .ptr 1 0]), (7, .int .i64 (↑r_0.Trips.length : Int)), (8, .int .i64 (↑(0 : Nat) : Int))] [(bT (Tapi_Charge.enc x56) 86), (bT [.str id_1] 9)]) :: (cs 3 [.br false, .op none .w, .op none .c])))) [0, 1, 2] (ps := ((batch_Fates_L1_p3 r_0 id_1 k13 x56) ++ [(Does Tryz.prog GT 2 (.loop (bodyAt Tryz.prog 69 [1, 0, 1, 0, 0])) (S 19 [(0, .lst (fl Tapi_Trip.enc r_0.Trips) r_0.Trips.length), (1, .fn (.func 16) [] [.ptr 0 0, .ptr 1 0]), (7, .int .i64 (↑r_0.Trips.length : Int)), (8, .int .i64 (↑(0 : Nat) : Int))] [(bT (Tapi_Charge.enc x56) 86), (bT [.str id_1] 9)]) (.exit 0) (S 19 [] [(bT (Tapi_Charge.enc x56) 86), (bT [.str id_1] 9)])), (false = false), (IntKind.min .i64 ≤ ((↑k13 : Int) + 1) ∧ ((↑k13 : Int) + 1) ≤ IntKind.max .i64)])) (by kernel_rfl) (by kernel_rfl) (allOk_append.2 ⟨(batch_Fates_L1_p3q r_0 id_1 k13 c55 x56 h57), ⟨(batch_Fates_L58_does r_0 id_1 x56 (s := (0 : Nat)) (r := Sum.inr (o58)) hl58), rfl, ok1 h107⟩⟩)
theorem batch_Fates_L1_3 (r_0 : Tapi_Result) (id_1 : (List UInt8)) (k13 : Nat) (b2 : (List (List UInt8))) (c55 : ¬ ((↑k13 : Int) < (↑r_0.Charges.length : Int))) : Does Tryz.prog GT 2 (bodyAt Tryz.prog 6 [1, 1, 0, 1, 0, 0]) (batch_Fates_L1_H r_0 id_1 (k13, b2)) (.exit 0) (S 49 [(2, .ptr 0 0), (3, .ptr 1 0), (5, .vec 2 b2.length 1)] [(bT (Tapi_Result.enc r_0) 29), (bT [.str id_1] 9), (bV (fl e_str b2) 9)]) :=
  Does.of_viewM 2 400 ([.op none .a] ++ [.br false]) [0, 1, 2] (ps := [((decide ((↑k13 : Int) < (↑r_0.Charges.length : Int))) = false)]) (by kernel_rfl) (by kernel_rfl) (ok1 (decide_eq_false c55))
def batch_Fates_L1_X (r_0 : Tapi_Result) (id_1 : (List UInt8)) : (List (List UInt8)) → AEx := fun o => (.exit 0)
def batch_Fates_L1_E (r_0 : Tapi_Result) (id_1 : (List UInt8)) : (List (List UInt8)) → St := fun o => S 49 [(2, .ptr 0 0), (3, .ptr 1 0), (5, .vec 2 o.length 1)] [(bT (Tapi_Result.enc r_0) 29), (bT [.str id_1] 9), (bV (fl e_str o) 9)]
theorem batch_Fates_L1_does (r_0 : Tapi_Result) (id_1 : (List UInt8)) {s : (Nat × (List (List UInt8)))} {r : (List (List UInt8))} (h : lp (batch_Fates_L1_step r_0 id_1) s = some r) : Does Tryz.prog GT 2 (.loop (bodyAt Tryz.prog 6 [1, 1, 0, 1, 0, 0])) (batch_Fates_L1_H r_0 id_1 s) (batch_Fates_L1_X r_0 id_1 r) (batch_Fates_L1_E r_0 id_1 r) := by
  refine Does.lp (H := batch_Fates_L1_H r_0 id_1) (X := batch_Fates_L1_X r_0 id_1) (E := batch_Fates_L1_E r_0 id_1) (fun s s2 h => ?_) (fun s r h => ?_) h
  · obtain ⟨k13, b2⟩ := s
    unfold batch_Fates_L1_step at h
    try dsimp only at h
    rcases ite_some h with ⟨c55, h⟩ | ⟨c55, h⟩
    · obtain ⟨x56, h57, h⟩ := bind_some h
      obtain ⟨qq, hl58, h⟩ := bind_some h
      rcases qq with o58 | o58
      · dsimp only at h
        rcases ite_some h with ⟨c103, h⟩ | ⟨c103, h⟩
        · obtain ⟨h104, h⟩ := guard_some h
          obtain ⟨h105, h⟩ := guard_some h
          simp only [Option.some.injEq, Sum.inl.injEq] at h
          subst h
          have hq := batch_Fates_L1_0 r_0 id_1 k13 b2 c55 x56 h57 o58 hl58 c103 h104 h105
          first | exact hq | exact Eq.mp (by simp only [batch_Fates_L1_H, List.length_set] <;> rfl) hq
        · obtain ⟨h106, h⟩ := guard_some h
          simp only [Option.some.injEq, Sum.inl.injEq] at h
          subst h
          have hq := batch_Fates_L1_1 r_0 id_1 k13 b2 c55 x56 h57 o58 hl58 c103 h106
          first | exact hq | exact Eq.mp (by simp only [batch_Fates_L1_H, List.length_set] <;> rfl) hq
      · dsimp only at h
        obtain ⟨h107, h⟩ := guard_some h
        simp only [Option.some.injEq, Sum.inl.injEq] at h
        subst h
        have hq := batch_Fates_L1_2 r_0 id_1 k13 b2 c55 x56 h57 o58 hl58 h107
        first | exact hq | exact Eq.mp (by simp only [batch_Fates_L1_H, List.length_set] <;> rfl) hq
    · simp at h
  · obtain ⟨k13, b2⟩ := s
    unfold batch_Fates_L1_step at h
    try dsimp only at h
    rcases ite_some h with ⟨c55, h⟩ | ⟨c55, h⟩
    · obtain ⟨x56, h57, h⟩ := bind_some h
      obtain ⟨qq, hl58, h⟩ := bind_some h
      rcases qq with o58 | o58
      · dsimp only at h
        rcases ite_some h with ⟨c103, h⟩ | ⟨c103, h⟩
        · obtain ⟨h104, h⟩ := guard_some h
          obtain ⟨h105, h⟩ := guard_some h
          simp at h
        · obtain ⟨h106, h⟩ := guard_some h
          simp at h
      · dsimp only at h
        obtain ⟨h107, h⟩ := guard_some h
        simp at h
    · simp only [Option.some.injEq, Sum.inr.injEq] at h
      subst h
      exact ⟨batch_Fates_L1_3 r_0 id_1 k13 b2 c55, by intro q; cases q⟩
noncomputable def batch_Fates_L108_step (r_0 : Tapi_Result) (id_1 : (List UInt8)) : (Nat × (List (List UInt8))) → Option ((Nat × (List (List UInt8))) ⊕ (List (List UInt8)))
  | (k30, b5) =>
    if (↑k30 : Int) < (↑r_0.Exclusions.length : Int) then
      (r_0.Exclusions[k30]?).bind fun x120 =>
      if x120.ID = id_1 then
        (text_Format x120.Why).bind fun r123 =>
        if ([120, 58] : List UInt8).length + r123.length ≤ 9223372036854775807 then
          if b5.length + 1 ≤ 8796093022000 then
            if InR .i64 ((↑k30 : Int) + 1) then
              some (Sum.inl ((k30 + 1), (b5 ++ [([120, 58] : List UInt8) ++ r123])))
            else none
          else none
        else none
      else
        if InR .i64 ((↑k30 : Int) + 1) then
          some (Sum.inl ((k30 + 1), b5))
        else none
    else
      some (Sum.inr b5)
def batch_Fates_L108_H (r_0 : Tapi_Result) (id_1 : (List UInt8)) : (Nat × (List (List UInt8))) → St := fun (s : (Nat × (List (List UInt8)))) => S 49 [(3, .ptr 0 0), (5, .vec 1 s.2.length 1), (28, .lst (fl Tapi_Exclusion.enc r_0.Exclusions) r_0.Exclusions.length), (29, .int .i64 (↑r_0.Exclusions.length : Int)), (30, .int .i64 (↑s.1 : Int))] [(bT [.str id_1] 9), (bV (fl e_str s.2) 9)]
def batch_Fates_L108_h1 (k30 : Nat) (x120 : Tapi_Exclusion) : List CH := ((.br true) :: (.op none (.i k30)) :: (.op none (.v [.str x120.ID, .int .i64 x120.Why])) :: (cs 5 [.op none .a]))
def batch_Fates_L108_p2 (r_0 : Tapi_Result) (k30 : Nat) (x120 : Tapi_Exclusion) : List Prop := [((decide ((↑k30 : Int) < (↑r_0.Exclusions.length : Int))) = true), ((↑k30 : Int) = ((k30 : Nat) : Int) ∧ k30 < r_0.Exclusions.length), ((fl Tapi_Exclusion.enc r_0.Exclusions) ≠ []), (sub (fl Tapi_Exclusion.enc r_0.Exclusions) (k30 * 2) 2 = [.str x120.ID, .int .i64 x120.Why])]
theorem batch_Fates_L108_p2q (r_0 : Tapi_Result) (k30 : Nat) (c119 : (↑k30 : Int) < (↑r_0.Exclusions.length : Int)) (x120 : Tapi_Exclusion) (h121 : r_0.Exclusions[k30]? = some x120) : allOk (batch_Fates_L108_p2 r_0 k30 x120) := ⟨(decide_eq_true c119), ⟨rfl, get_lt h121⟩, (fl_ne (f := Tapi_Exclusion.enc) (z := 1) (fun _ => rfl) h121), ok1 (fl_sub0 (f := Tapi_Exclusion.enc) (z := 2) (j := k30) (fun _ => rfl) h121 rfl)⟩
theorem batch_Fates_L108_0 (r_0 : Tapi_Result) (id_1 : (List UInt8)) (k30 : Nat) (b5 : (List (List UInt8))) (c119 : (↑k30 : Int) < (↑r_0.Exclusions.length : Int)) (x120 : Tapi_Exclusion) (h121 : r_0.Exclusions[k30]? = some x120) (c122 : x120.ID = id_1) (r123 : (List UInt8)) (h124 : text_Format x120.Why = some r123) (h125 : ([120, 58] : List UInt8).length + r123.length ≤ 9223372036854775807) (h126 : b5.length + 1 ≤ 8796093022000) (h127 : InR .i64 ((↑k30 : Int) + 1)) : Does Tryz.prog GT 1 (bodyAt Tryz.prog 6 [1, 1, 1, 0, 1, 0, 0]) (batch_Fates_L108_H r_0 id_1 (k30, b5)) .normal (S 49 [(3, .ptr 0 0), (5, .vec 1 ((b5 ++ [([120, 58] : List UInt8) ++ r123]).length) 1), (28, .lst (fl Tapi_Exclusion.enc r_0.Exclusions) r_0.Exclusions.length), (29, .int .i64 (↑r_0.Exclusions.length : Int)), (30, .int .i64 ((↑k30 : Int) + 1))] [(bT [.str id_1] 9), (bV (fl e_str (b5 ++ [([120, 58] : List UInt8) ++ r123])) 9)]) :=
  Does.of_viewM 1 400 ([.op none .a] ++ ((batch_Fates_L108_h1 k30 x120) ++ ((.br true) :: (cs 3 [.ret none [.int .i64 x120.Why] (.str r123) [], .op none .a, .op none .c, .op none (.ap 4), .tr (.eqc 4 (fl e_str (b5 ++ [([120, 58] : List UInt8) ++ r123]))), .tr (.eqt (.t 44) (.vec 4 ((b5 ++ [([120, 58] : List UInt8) ++ r123]).length) 1)), .op none .c, .op none .w, .op none .c])))) [0, 4] (ps := ((batch_Fates_L108_p2 r_0 k30 x120) ++ [((x120.ID == id_1) = true), ((.int .i64 x120.Why : AV) = .int .i64 x120.Why), (Ret Tryz.prog GT 19 [.int .i64 x120.Why] (.str r123) []), (([120, 58] : List UInt8).length + r123.length ≤ 9223372036854775807), (0 + 1 ≤ List.length ([.str (([120, 58] : List UInt8) ++ r123)] : List AV)), (List.length ((fl e_str b5) : List AV) = b5.length), (List.all ([.str (([120, 58] : List UInt8) ++ r123)] : List AV) AV.one = true), (b5.length + 1 ≤ 8796093022000), ((fl e_str b5) ++ [.str (([120, 58] : List UInt8) ++ r123)] = (fl e_str (b5 ++ [([120, 58] : List UInt8) ++ r123]))), ((.vec 4 (b5.length + 1) 1 : AV) = .vec 4 ((b5 ++ [([120, 58] : List UInt8) ++ r123]).length) 1), (IntKind.min .i64 ≤ ((↑k30 : Int) + 1) ∧ ((↑k30 : Int) + 1) ≤ IntKind.max .i64)])) (by kernel_rfl) (by kernel_rfl) (allOk_append.2 ⟨(batch_Fates_L108_p2q r_0 k30 c119 x120 h121), ⟨(beq_t c122), rfl, (text_Format_ret x120.Why r123 h124), h125, (Nat.le_of_ble_eq_true rfl), (fl_length1 (f := e_str) (fun _ => rfl) _), rfl, h126, (fl_snoc rfl), (by simp <;> omega), ok1 h127⟩⟩)
theorem batch_Fates_L108_1 (r_0 : Tapi_Result) (id_1 : (List UInt8)) (k30 : Nat) (b5 : (List (List UInt8))) (c119 : (↑k30 : Int) < (↑r_0.Exclusions.length : Int)) (x120 : Tapi_Exclusion) (h121 : r_0.Exclusions[k30]? = some x120) (c122 : ¬ (x120.ID = id_1)) (h128 : InR .i64 ((↑k30 : Int) + 1)) : Does Tryz.prog GT 1 (bodyAt Tryz.prog 6 [1, 1, 1, 0, 1, 0, 0]) (batch_Fates_L108_H r_0 id_1 (k30, b5)) .normal (S 49 [(3, .ptr 0 0), (5, .vec 1 b5.length 1), (28, .lst (fl Tapi_Exclusion.enc r_0.Exclusions) r_0.Exclusions.length), (29, .int .i64 (↑r_0.Exclusions.length : Int)), (30, .int .i64 ((↑k30 : Int) + 1))] [(bT [.str id_1] 9), (bV (fl e_str b5) 9)]) :=
  Does.of_viewM 1 400 ([.op none .a] ++ ((batch_Fates_L108_h1 k30 x120) ++ [.br false, .op none .w, .op none .c])) [0, 1] (ps := ((batch_Fates_L108_p2 r_0 k30 x120) ++ [((x120.ID == id_1) = false), (IntKind.min .i64 ≤ ((↑k30 : Int) + 1) ∧ ((↑k30 : Int) + 1) ≤ IntKind.max .i64)])) (by kernel_rfl) (by kernel_rfl) (allOk_append.2 ⟨(batch_Fates_L108_p2q r_0 k30 c119 x120 h121), ⟨(beq_f c122), ok1 h128⟩⟩)
theorem batch_Fates_L108_2 (r_0 : Tapi_Result) (id_1 : (List UInt8)) (k30 : Nat) (b5 : (List (List UInt8))) (c119 : ¬ ((↑k30 : Int) < (↑r_0.Exclusions.length : Int))) : Does Tryz.prog GT 1 (bodyAt Tryz.prog 6 [1, 1, 1, 0, 1, 0, 0]) (batch_Fates_L108_H r_0 id_1 (k30, b5)) (.exit 2) (S 49 [(5, .vec 1 b5.length 1)] [(bT [.str id_1] 9), (bV (fl e_str b5) 9)]) :=
  Does.of_viewM 1 400 ([.op none .a] ++ [.br false]) [0, 1] (ps := [((decide ((↑k30 : Int) < (↑r_0.Exclusions.length : Int))) = false)]) (by kernel_rfl) (by kernel_rfl) (ok1 (decide_eq_false c119))
def batch_Fates_L108_X (r_0 : Tapi_Result) (id_1 : (List UInt8)) : (List (List UInt8)) → AEx := fun o => (.exit 2)
def batch_Fates_L108_E (r_0 : Tapi_Result) (id_1 : (List UInt8)) : (List (List UInt8)) → St := fun o => S 49 [(5, .vec 1 o.length 1)] [(bT [.str id_1] 9), (bV (fl e_str o) 9)]
theorem batch_Fates_L108_does (r_0 : Tapi_Result) (id_1 : (List UInt8)) {s : (Nat × (List (List UInt8)))} {r : (List (List UInt8))} (h : lp (batch_Fates_L108_step r_0 id_1) s = some r) : Does Tryz.prog GT 1 (.loop (bodyAt Tryz.prog 6 [1, 1, 1, 0, 1, 0, 0])) (batch_Fates_L108_H r_0 id_1 s) (batch_Fates_L108_X r_0 id_1 r) (batch_Fates_L108_E r_0 id_1 r) := by
  refine Does.lp (H := batch_Fates_L108_H r_0 id_1) (X := batch_Fates_L108_X r_0 id_1) (E := batch_Fates_L108_E r_0 id_1) (fun s s2 h => ?_) (fun s r h => ?_) h
  · obtain ⟨k30, b5⟩ := s
    unfold batch_Fates_L108_step at h
    try dsimp only at h
    rcases ite_some h with ⟨c119, h⟩ | ⟨c119, h⟩
    · obtain ⟨x120, h121, h⟩ := bind_some h
      rcases ite_some h with ⟨c122, h⟩ | ⟨c122, h⟩
      · obtain ⟨r123, h124, h⟩ := bind_some h
        obtain ⟨h125, h⟩ := guard_some h
        obtain ⟨h126, h⟩ := guard_some h
        obtain ⟨h127, h⟩ := guard_some h
        simp only [Option.some.injEq, Sum.inl.injEq] at h
        subst h
        have hq := batch_Fates_L108_0 r_0 id_1 k30 b5 c119 x120 h121 c122 r123 h124 h125 h126 h127
        first | exact hq | exact Eq.mp (by simp only [batch_Fates_L108_H, List.length_set] <;> rfl) hq
      · obtain ⟨h128, h⟩ := guard_some h
        simp only [Option.some.injEq, Sum.inl.injEq] at h
        subst h
        have hq := batch_Fates_L108_1 r_0 id_1 k30 b5 c119 x120 h121 c122 h128
        first | exact hq | exact Eq.mp (by simp only [batch_Fates_L108_H, List.length_set] <;> rfl) hq
    · simp at h
  · obtain ⟨k30, b5⟩ := s
    unfold batch_Fates_L108_step at h
    try dsimp only at h
    rcases ite_some h with ⟨c119, h⟩ | ⟨c119, h⟩
    · obtain ⟨x120, h121, h⟩ := bind_some h
      rcases ite_some h with ⟨c122, h⟩ | ⟨c122, h⟩
      · obtain ⟨r123, h124, h⟩ := bind_some h
        obtain ⟨h125, h⟩ := guard_some h
        obtain ⟨h126, h⟩ := guard_some h
        obtain ⟨h127, h⟩ := guard_some h
        simp at h
      · obtain ⟨h128, h⟩ := guard_some h
        simp at h
    · simp only [Option.some.injEq, Sum.inr.injEq] at h
      subst h
      exact ⟨batch_Fates_L108_2 r_0 id_1 k30 b5 c119, by intro q; cases q⟩
noncomputable def batch_Fates (r_0 : Tapi_Result) (id_1 : (List UInt8)) : Option (List (List UInt8)) :=
  (lp (batch_Fates_L1_step r_0 id_1) ((0 : Nat), ([] : (List (List UInt8))))).bind fun o1 =>
  (lp (batch_Fates_L108_step r_0 id_1) ((0 : Nat), o1)).bind fun o108 =>
  if SrS (o108) then
    some (sortS (o108))
  else none
theorem batch_Fates_0 (r_0 : Tapi_Result) (id_1 : (List UInt8)) (o1 : (List (List UInt8))) (hl1 : lp (batch_Fates_L1_step r_0 id_1) ((0 : Nat), ([] : (List (List UInt8)))) = some o1) (o108 : (List (List UInt8))) (hl108 : lp (batch_Fates_L108_step r_0 id_1) ((0 : Nat), o1) = some o108) (h129 : SrS (o108)) : Ret Tryz.prog GT 6 [.agg (Tapi_Result.enc r_0), .str id_1] (.vec 0 o108.length 1) [(bV (fl e_str (sortS (o108))) 9)] :=
  Ret.of_view 400 (cs 8 ((.tr (.vec (.t 5) 1 9)) :: (.fcut 2 (.exit 0) [(2, .ptr 0 0), (3, .ptr 1 0), (5, .vec 2 o1.length 1)] [(bT (Tapi_Result.enc r_0) 29), (bT [.str id_1] 9), (bV (fl e_str o1) 9)] [0, 1, 2] [(2, .ptr 0 0), (3, .ptr 1 0), (5, .vec 2 (([] : (List (List UInt8))).length) 1), (11, .lst (fl Tapi_Charge.enc r_0.Charges) r_0.Charges.length), (12, .int .i64 (↑r_0.Charges.length : Int)), (13, .int .i64 (↑(0 : Nat) : Int))] [(bT (Tapi_Result.enc r_0) 29), (bT [.str id_1] 9), (bV (fl e_str ([] : (List (List UInt8)))) 9)]) :: (cs 4 ((.fcut 1 (.exit 2) [(5, .vec 1 o108.length 1)] [(bT [.str id_1] 9), (bV (fl e_str o108) 9)] [1, 5] [(3, .ptr 0 0), (5, .vec 1 o1.length 1), (28, .lst (fl Tapi_Exclusion.enc r_0.Exclusions) r_0.Exclusions.length), (29, .int .i64 (↑r_0.Exclusions.length : Int)), (30, .int .i64 (↑(0 : Nat) : Int))] [(bT [.str id_1] 9), (bV (fl e_str o1) 9)]) :: (cs 2 ((.spec (fspec 1 [7] [.vec 0 o108.length 1] [(bV (fl e_str o108) 9)] (.tup []) [(bV (fl e_str (sortS (o108))) 9)])) :: (cs 2 []))))))) [7] (ps := [((.ptr 0 0 : AV) = .ptr 0 0), ((.ptr 1 0 : AV) = .ptr 1 0), ((.vec 2 0 1 : AV) = .vec 2 (([] : (List (List UInt8))).length) 1), ((.lst (fl Tapi_Charge.enc r_0.Charges) r_0.Charges.length : AV) = .lst (fl Tapi_Charge.enc r_0.Charges) r_0.Charges.length), ((.int .i64 (↑r_0.Charges.length : Int) : AV) = .int .i64 (↑r_0.Charges.length : Int)), ((.int .i64 0 : AV) = .int .i64 (↑(0 : Nat) : Int)), (((bT (Tapi_Result.enc r_0) 29) : Blk) = renB [0, 1, 2] (bT (Tapi_Result.enc r_0) 29)), (((bT [.str id_1] 9) : Blk) = renB [0, 1, 2] (bT [.str id_1] 9)), (((bV [] 9) : Blk) = renB [0, 1, 2] (bV (fl e_str ([] : (List (List UInt8)))) 9)), (Does Tryz.prog GT 2 (.loop (bodyAt Tryz.prog 6 [1, 1, 0, 1, 0, 0])) (S 49 [(2, .ptr 0 0), (3, .ptr 1 0), (5, .vec 2 (([] : (List (List UInt8))).length) 1), (11, .lst (fl Tapi_Charge.enc r_0.Charges) r_0.Charges.length), (12, .int .i64 (↑r_0.Charges.length : Int)), (13, .int .i64 (↑(0 : Nat) : Int))] [(bT (Tapi_Result.enc r_0) 29), (bT [.str id_1] 9), (bV (fl e_str ([] : (List (List UInt8)))) 9)]) (.exit 0) (S 49 [(2, .ptr 0 0), (3, .ptr 1 0), (5, .vec 2 o1.length 1)] [(bT (Tapi_Result.enc r_0) 29), (bT [.str id_1] 9), (bV (fl e_str o1) 9)])), ((.ptr 1 0 : AV) = .ptr 1 0), ((.vec 5 o1.length 1 : AV) = .vec 5 o1.length 1), ((.lst (fl Tapi_Exclusion.enc r_0.Exclusions) r_0.Exclusions.length : AV) = .lst (fl Tapi_Exclusion.enc r_0.Exclusions) r_0.Exclusions.length), ((.int .i64 (↑r_0.Exclusions.length : Int) : AV) = .int .i64 (↑r_0.Exclusions.length : Int)), ((.int .i64 0 : AV) = .int .i64 (↑(0 : Nat) : Int)), (((bT [.str id_1] 9) : Blk) = renB [1, 5] (bT [.str id_1] 9)), (((bV (fl e_str o1) 9) : Blk) = renB [1, 5] (bV (fl e_str o1) 9)), (Does Tryz.prog GT 1 (.loop (bodyAt Tryz.prog 6 [1, 1, 1, 0, 1, 0, 0])) (S 49 [(3, .ptr 0 0), (5, .vec 1 o1.length 1), (28, .lst (fl Tapi_Exclusion.enc r_0.Exclusions) r_0.Exclusions.length), (29, .int .i64 (↑r_0.Exclusions.length : Int)), (30, .int .i64 (↑(0 : Nat) : Int))] [(bT [.str id_1] 9), (bV (fl e_str o1) 9)]) (.exit 2) (S 49 [(5, .vec 1 o108.length 1)] [(bT [.str id_1] 9), (bV (fl e_str o108) 9)])), (SpecOk Tryz.prog GT 20 (fspec 1 [7] [.vec 0 o108.length 1] [(bV (fl e_str o108) 9)] (.tup []) [(bV (fl e_str (sortS (o108))) 9)])), ((([.vec 7 o108.length 1] : List AV) = [.vec 7 o108.length 1]) ∧ (some (Ob.blk (bV (fl e_str o108) 9)) = some (Ob.blk (bV (fl e_str o108) 9))) ∧ True)]) (by kernel_rfl) (by kernel_rfl) ⟨rfl, rfl, (by first | rfl | simp only [List.length_replicate, List.length_set]), rfl, rfl, rfl, rfl, rfl, rfl, (batch_Fates_L1_does r_0 id_1 (s := ((0 : Nat), ([] : (List (List UInt8))))) (r := o1) hl1), rfl, (by first | rfl | simp only [List.length_replicate, List.length_set]), rfl, rfl, rfl, rfl, rfl, (batch_Fates_L108_does r_0 id_1 (s := ((0 : Nat), o1)) (r := o108) hl108), (fspec_ok _ (sortS_calls (o108) h129)), ok1 ⟨rfl, rfl, trivial⟩⟩
theorem batch_Fates_ret (r_0 : Tapi_Result) (id_1 : (List UInt8)) (r : (List (List UInt8))) (h : batch_Fates r_0 id_1 = some r) : Ret Tryz.prog GT 6 [.agg (Tapi_Result.enc r_0), .str id_1] (.vec 0 r.length 1) [(bV (fl e_str r) 9)] := by
  unfold batch_Fates at h
  obtain ⟨o1, hl1, h⟩ := bind_some h
  obtain ⟨o108, hl108, h⟩ := bind_some h
  obtain ⟨h129, h⟩ := guard_some h
  simp only [Option.some.injEq] at h
  subst h
  rw [sortS_length]
  exact batch_Fates_0 r_0 id_1 o1 hl1 o108 hl108 h129
end Go.Proofs.YtnlaiahcemckkaaGreatDoor.Av
set_option linter.unusedVariables false
set_option linter.unusedSimpArgs false
set_option maxHeartbeats 4000000
namespace Go.Proofs.YtnlaiahcemckkaaGreatDoor.Av
open Go Go.Proofs
noncomputable def tollwayref47_Fates_L94_step (r_0 : Tapi_Result) (id_1 : (List UInt8)) (k6 : Nat) (b1 : (List (List UInt8))) (v7 : Bool) (k8 : Nat) (r92 : (List (List UInt8))) : (Bool × Nat) → Option ((Bool × Nat) ⊕ Bool)
  | (v7, k10) =>
    if (↑k10 : Int) < (↑r92.length : Int) then
      if v7 = true then
        if InR .i64 ((↑k10 : Int) + 1) then
          some (Sum.inl (true, (k10 + 1)))
        else none
      else
        (r92[k10]?).bind fun x104 =>
        if InR .i64 ((↑k10 : Int) + 1) then
          some (Sum.inl ((x104 == id_1), (k10 + 1)))
        else none
    else
      some (Sum.inr v7)
def tollwayref47_Fates_L94_H (r_0 : Tapi_Result) (id_1 : (List UInt8)) (k6 : Nat) (b1 : (List (List UInt8))) (v7 : Bool) (k8 : Nat) (r92 : (List (List UInt8))) : (Bool × Nat) → St := fun (s : (Bool × Nat)) => S 97 [(1, .str id_1), (2, .ptr 0 0), (5, .vec 1 b1.length 1), (6, .int .i64 (↑k6 : Int)), (7, .bool s.1), (8, .int .i64 (↑k8 : Int)), (9, .vec 2 r92.length 1), (10, .int .i64 (↑s.2 : Int))] [(bT (Tapi_Result.enc r_0) 29), (bV (fl e_str b1) 9), (bV (fl e_str r92) 9)]
def tollwayref47_Fates_L94_h1  : List CH := (cs 3 [.op none .a])
def tollwayref47_Fates_L94_h2  : List CH := ((.br true) :: (cs 2 []))
theorem tollwayref47_Fates_L94_0 (r_0 : Tapi_Result) (id_1 : (List UInt8)) (k6 : Nat) (b1 : (List (List UInt8))) (v7 : Bool) (k8 : Nat) (r92 : (List (List UInt8))) (v7 : Bool) (k10 : Nat) (c101 : (↑k10 : Int) < (↑r92.length : Int)) (c102 : v7 = true) (h103 : InR .i64 ((↑k10 : Int) + 1)) : Does Tryz.prog GT 3 (bodyAt Tryz.prog 7 [1, 1, 0, 1, 0, 0, 1, 0, 0, 1, 0, 1, 0, 0, 1, 0, 0, 1, 1, 1, 0, 0]) (tollwayref47_Fates_L94_H r_0 id_1 k6 b1 v7 k8 r92 (v7, k10)) .normal (S 97 [(1, .str id_1), (2, .ptr 0 0), (5, .vec 1 b1.length 1), (6, .int .i64 (↑k6 : Int)), (7, .bool true), (8, .int .i64 (↑k8 : Int)), (9, .vec 2 r92.length 1), (10, .int .i64 ((↑k10 : Int) + 1))] [(bT (Tapi_Result.enc r_0) 29), (bV (fl e_str b1) 9), (bV (fl e_str r92) 9)]) :=
  Does.of_viewM 3 400 ((tollwayref47_Fates_L94_h1) ++ ((tollwayref47_Fates_L94_h2) ++ ((.op (some true) .c) :: (cs 8 [.op none .w, .op none .c])))) [0, 1, 2] (ps := ([((decide ((↑k10 : Int) < (↑r92.length : Int))) = true)] ++ [(v7 = true), (IntKind.min .i64 ≤ ((↑k10 : Int) + 1) ∧ ((↑k10 : Int) + 1) ≤ IntKind.max .i64)])) (by kernel_rfl) (by kernel_rfl) (allOk_append.2 ⟨(ok1 (decide_eq_true c101)), ⟨c102, ok1 h103⟩⟩)
theorem tollwayref47_Fates_L94_1 (r_0 : Tapi_Result) (id_1 : (List UInt8)) (k6 : Nat) (b1 : (List (List UInt8))) (v7 : Bool) (k8 : Nat) (r92 : (List (List UInt8))) (v7 : Bool) (k10 : Nat) (c101 : (↑k10 : Int) < (↑r92.length : Int)) (c102 : ¬ (v7 = true)) (x104 : (List UInt8)) (h105 : r92[k10]? = some x104) (h106 : InR .i64 ((↑k10 : Int) + 1)) : Does Tryz.prog GT 3 (bodyAt Tryz.prog 7 [1, 1, 0, 1, 0, 0, 1, 0, 0, 1, 0, 1, 0, 0, 1, 0, 0, 1, 1, 1, 0, 0]) (tollwayref47_Fates_L94_H r_0 id_1 k6 b1 v7 k8 r92 (v7, k10)) .normal (S 97 [(1, .str id_1), (2, .ptr 0 0), (5, .vec 1 b1.length 1), (6, .int .i64 (↑k6 : Int)), (7, .bool (x104 == id_1)), (8, .int .i64 (↑k8 : Int)), (9, .vec 2 r92.length 1), (10, .int .i64 ((↑k10 : Int) + 1))] [(bT (Tapi_Result.enc r_0) 29), (bV (fl e_str b1) 9), (bV (fl e_str r92) 9)]) :=
  Does.of_viewM 3 400 ((tollwayref47_Fates_L94_h1) ++ ((tollwayref47_Fates_L94_h2) ++ ((.op (some false) .c) :: (.op none .c) :: (.op none (.i k10)) :: (.op none (.v [.str x104])) :: (.op none .c) :: (.op none .a) :: (cs 3 [.op none .w, .op none .c])))) [0, 1, 2] (ps := ([((decide ((↑k10 : Int) < (↑r92.length : Int))) = true)] ++ [(v7 = false), ((↑k10 : Int) = ((k10 : Nat) : Int) ∧ k10 < r92.length), (sub (fl e_str r92) k10 1 = [.str x104]), (IntKind.min .i64 ≤ ((↑k10 : Int) + 1) ∧ ((↑k10 : Int) + 1) ≤ IntKind.max .i64)])) (by kernel_rfl) (by kernel_rfl) (allOk_append.2 ⟨(ok1 (decide_eq_true c101)), ⟨(eq_false_of_ne_true c102), ⟨rfl, get_lt h105⟩, (fl_sub1 (f := e_str) (fun _ => rfl) h105 rfl), ok1 h106⟩⟩)
theorem tollwayref47_Fates_L94_2 (r_0 : Tapi_Result) (id_1 : (List UInt8)) (k6 : Nat) (b1 : (List (List UInt8))) (v7 : Bool) (k8 : Nat) (r92 : (List (List UInt8))) (v7 : Bool) (k10 : Nat) (c101 : ¬ ((↑k10 : Int) < (↑r92.length : Int))) : Does Tryz.prog GT 3 (bodyAt Tryz.prog 7 [1, 1, 0, 1, 0, 0, 1, 0, 0, 1, 0, 1, 0, 0, 1, 0, 0, 1, 1, 1, 0, 0]) (tollwayref47_Fates_L94_H r_0 id_1 k6 b1 v7 k8 r92 (v7, k10)) (.exit 4) (S 97 [(1, .str id_1), (2, .ptr 0 0), (5, .vec 1 b1.length 1), (6, .int .i64 (↑k6 : Int)), (7, .bool v7), (8, .int .i64 (↑k8 : Int))] [(bT (Tapi_Result.enc r_0) 29), (bV (fl e_str b1) 9), (bV (fl e_str r92) 9)]) :=
  Does.of_viewM 3 400 ((tollwayref47_Fates_L94_h1) ++ [.br false]) [0, 1, 2] (ps := [((decide ((↑k10 : Int) < (↑r92.length : Int))) = false)]) (by kernel_rfl) (by kernel_rfl) (ok1 (decide_eq_false c101))
def tollwayref47_Fates_L94_X (r_0 : Tapi_Result) (id_1 : (List UInt8)) (k6 : Nat) (b1 : (List (List UInt8))) (v7 : Bool) (k8 : Nat) (r92 : (List (List UInt8))) : Bool → AEx := fun o => (.exit 4)
def tollwayref47_Fates_L94_E (r_0 : Tapi_Result) (id_1 : (List UInt8)) (k6 : Nat) (b1 : (List (List UInt8))) (v7 : Bool) (k8 : Nat) (r92 : (List (List UInt8))) : Bool → St := fun o => S 97 [(1, .str id_1), (2, .ptr 0 0), (5, .vec 1 b1.length 1), (6, .int .i64 (↑k6 : Int)), (7, .bool o), (8, .int .i64 (↑k8 : Int))] [(bT (Tapi_Result.enc r_0) 29), (bV (fl e_str b1) 9), (bV (fl e_str r92) 9)]
theorem tollwayref47_Fates_L94_does (r_0 : Tapi_Result) (id_1 : (List UInt8)) (k6 : Nat) (b1 : (List (List UInt8))) (v7 : Bool) (k8 : Nat) (r92 : (List (List UInt8))) {s : (Bool × Nat)} {r : Bool} (h : lp (tollwayref47_Fates_L94_step r_0 id_1 k6 b1 v7 k8 r92) s = some r) : Does Tryz.prog GT 3 (.loop (bodyAt Tryz.prog 7 [1, 1, 0, 1, 0, 0, 1, 0, 0, 1, 0, 1, 0, 0, 1, 0, 0, 1, 1, 1, 0, 0])) (tollwayref47_Fates_L94_H r_0 id_1 k6 b1 v7 k8 r92 s) (tollwayref47_Fates_L94_X r_0 id_1 k6 b1 v7 k8 r92 r) (tollwayref47_Fates_L94_E r_0 id_1 k6 b1 v7 k8 r92 r) := by
  refine Does.lp (H := tollwayref47_Fates_L94_H r_0 id_1 k6 b1 v7 k8 r92) (X := tollwayref47_Fates_L94_X r_0 id_1 k6 b1 v7 k8 r92) (E := tollwayref47_Fates_L94_E r_0 id_1 k6 b1 v7 k8 r92) (fun s s2 h => ?_) (fun s r h => ?_) h
  · obtain ⟨v7, k10⟩ := s
    unfold tollwayref47_Fates_L94_step at h
    try dsimp only at h
    rcases ite_some h with ⟨c101, h⟩ | ⟨c101, h⟩
    · rcases ite_some h with ⟨c102, h⟩ | ⟨c102, h⟩
      · obtain ⟨h103, h⟩ := guard_some h
        simp only [Option.some.injEq, Sum.inl.injEq] at h
        subst h
        have hq := tollwayref47_Fates_L94_0 r_0 id_1 k6 b1 v7 k8 r92 v7 k10 c101 c102 h103
        first | exact hq | exact Eq.mp (by simp only [tollwayref47_Fates_L94_H, List.length_set] <;> rfl) hq
      · obtain ⟨x104, h105, h⟩ := bind_some h
        obtain ⟨h106, h⟩ := guard_some h
        simp only [Option.some.injEq, Sum.inl.injEq] at h
        subst h
        have hq := tollwayref47_Fates_L94_1 r_0 id_1 k6 b1 v7 k8 r92 v7 k10 c101 c102 x104 h105 h106
        first | exact hq | exact Eq.mp (by simp only [tollwayref47_Fates_L94_H, List.length_set] <;> rfl) hq
    · simp at h
  · obtain ⟨v7, k10⟩ := s
    unfold tollwayref47_Fates_L94_step at h
    try dsimp only at h
    rcases ite_some h with ⟨c101, h⟩ | ⟨c101, h⟩
    · rcases ite_some h with ⟨c102, h⟩ | ⟨c102, h⟩
      · obtain ⟨h103, h⟩ := guard_some h
        simp at h
      · obtain ⟨x104, h105, h⟩ := bind_some h
        obtain ⟨h106, h⟩ := guard_some h
        simp at h
    · simp only [Option.some.injEq, Sum.inr.injEq] at h
      subst h
      exact ⟨tollwayref47_Fates_L94_2 r_0 id_1 k6 b1 v7 k8 r92 v7 k10 c101, by intro q; cases q⟩
noncomputable def tollwayref47_Fates_L60_step (r_0 : Tapi_Result) (id_1 : (List UInt8)) (k6 : Nat) (b1 : (List (List UInt8))) : (Bool × Nat) → Option ((Bool × Nat) ⊕ Bool)
  | (v7, k8) =>
    if (↑k8 : Int) < (↑r_0.Trips.length : Int) then
      (r_0.Trips[k8]?).bind fun x86 =>
      if ([116, 58] : List UInt8).length + x86.ID.length ≤ 9223372036854775807 then
        (r_0.Charges[k6]?).bind fun x89 =>
        if (([116, 58] : List UInt8) ++ x86.ID) = x89.Key then
          (tollwayref21_Passages x86).bind fun r92 =>
          (lp (tollwayref47_Fates_L94_step r_0 id_1 k6 b1 v7 k8 r92) (v7, (0 : Nat))).bind fun o94 =>
          if InR .i64 ((↑k8 : Int) + 1) then
            some (Sum.inl (o94, (k8 + 1)))
          else none
        else
          if InR .i64 ((↑k8 : Int) + 1) then
            some (Sum.inl (v7, (k8 + 1)))
          else none
      else none
    else
      some (Sum.inr v7)
def tollwayref47_Fates_L60_H (r_0 : Tapi_Result) (id_1 : (List UInt8)) (k6 : Nat) (b1 : (List (List UInt8))) : (Bool × Nat) → St := fun (s : (Bool × Nat)) => S 97 [(1, .str id_1), (2, .ptr 0 0), (5, .vec 1 b1.length 1), (6, .int .i64 (↑k6 : Int)), (7, .bool s.1), (8, .int .i64 (↑s.2 : Int))] [(bT (Tapi_Result.enc r_0) 29), (bV (fl e_str b1) 9)]
def tollwayref47_Fates_L60_h1  : List CH := (cs 4 [.op none .a])
def tollwayref47_Fates_L60_h2 (k6 : Nat) (k8 : Nat) (x86 : Tapi_Trip) (x89 : Tapi_Charge) : List CH := ((.br true) :: (cs 3 ((.op none (.i k8)) :: (.op none .c) :: (.op none (.v [.str x86.ID])) :: (.op none .a) :: (cs 3 [.op none (.i k6), .op none .c, .op none (.v [.str x89.Key]), .op none .a]))))
def tollwayref47_Fates_L60_p3 (r_0 : Tapi_Result) (k6 : Nat) (k8 : Nat) (x86 : Tapi_Trip) (x89 : Tapi_Charge) : List Prop := [((decide ((↑k8 : Int) < (↑r_0.Trips.length : Int))) = true), ((↑k8 : Int) = ((k8 : Nat) : Int) ∧ k8 < r_0.Trips.length), ((fl Tapi_Trip.enc r_0.Trips) ≠ []), (sub (fl Tapi_Trip.enc r_0.Trips) (k8 * 5) 1 = [.str x86.ID]), (([116, 58] : List UInt8).length + x86.ID.length ≤ 9223372036854775807), ((↑k6 : Int) = ((k6 : Nat) : Int) ∧ k6 < r_0.Charges.length), ((fl Tapi_Charge.enc r_0.Charges) ≠ []), (sub (fl Tapi_Charge.enc r_0.Charges) (k6 * 7) 1 = [.str x89.Key])]
theorem tollwayref47_Fates_L60_p3q (r_0 : Tapi_Result) (k6 : Nat) (k8 : Nat) (c85 : (↑k8 : Int) < (↑r_0.Trips.length : Int)) (x86 : Tapi_Trip) (h87 : r_0.Trips[k8]? = some x86) (h88 : ([116, 58] : List UInt8).length + x86.ID.length ≤ 9223372036854775807) (x89 : Tapi_Charge) (h90 : r_0.Charges[k6]? = some x89) : allOk (tollwayref47_Fates_L60_p3 r_0 k6 k8 x86 x89) := ⟨(decide_eq_true c85), ⟨rfl, get_lt h87⟩, (fl_ne (f := Tapi_Trip.enc) (z := 4) (fun _ => rfl) h87), (fl_sub (f := Tapi_Trip.enc) (z := 5) (j := k8) (a := 0) (n := 1) (fun _ => rfl) h87 (by decide) rfl), h88, ⟨rfl, get_lt h90⟩, (fl_ne (f := Tapi_Charge.enc) (z := 6) (fun _ => rfl) h90), ok1 (fl_sub (f := Tapi_Charge.enc) (z := 7) (j := k6) (a := 0) (n := 1) (fun _ => rfl) h90 (by decide) rfl)⟩
theorem tollwayref47_Fates_L60_0 (r_0 : Tapi_Result) (id_1 : (List UInt8)) (k6 : Nat) (b1 : (List (List UInt8))) (v7 : Bool) (k8 : Nat) (c85 : (↑k8 : Int) < (↑r_0.Trips.length : Int)) (x86 : Tapi_Trip) (h87 : r_0.Trips[k8]? = some x86) (h88 : ([116, 58] : List UInt8).length + x86.ID.length ≤ 9223372036854775807) (x89 : Tapi_Charge) (h90 : r_0.Charges[k6]? = some x89) (c91 : (([116, 58] : List UInt8) ++ x86.ID) = x89.Key) (r92 : (List (List UInt8))) (h93 : tollwayref21_Passages x86 = some r92) (o94 : Bool) (hl94 : lp (tollwayref47_Fates_L94_step r_0 id_1 k6 b1 v7 k8 r92) (v7, (0 : Nat)) = some o94) (h107 : InR .i64 ((↑k8 : Int) + 1)) : Does Tryz.prog GT 2 (bodyAt Tryz.prog 7 [1, 1, 0, 1, 0, 0, 1, 0, 0, 1, 0, 1, 0, 0]) (tollwayref47_Fates_L60_H r_0 id_1 k6 b1 (v7, k8)) .normal (S 97 [(1, .str id_1), (2, .ptr 0 0), (5, .vec 1 b1.length 1), (6, .int .i64 (↑k6 : Int)), (7, .bool o94), (8, .int .i64 ((↑k8 : Int) + 1))] [(bT (Tapi_Result.enc r_0) 29), (bV (fl e_str b1) 9)]) :=
  Does.of_viewM 2 400 ((tollwayref47_Fates_L60_h1) ++ ((tollwayref47_Fates_L60_h2 k6 k8 x86 x89) ++ ((.br false) :: (cs 3 ((.op none (.i k8)) :: (.op none (.v [.str x86.ID, .str x86.Vehicle, .str x86.System, .int .i64 x86.Class, .lst (fl Tapi_Stop.enc x86.Stops) x86.Stops.length])) :: (.ret none [.agg (Tapi_Trip.enc x86)] (.vec 0 r92.length 1) [(bV (fl e_str r92) 9)]) :: (cs 2 [.fcut 3 (.exit 4) [(1, .str id_1), (2, .ptr 0 0), (5, .vec 1 b1.length 1), (6, .int .i64 (↑k6 : Int)), (7, .bool o94), (8, .int .i64 (↑k8 : Int))] [(bT (Tapi_Result.enc r_0) 29), (bV (fl e_str b1) 9), (bV (fl e_str r92) 9)] [0, 1, 2] [(1, .str id_1), (2, .ptr 0 0), (5, .vec 1 b1.length 1), (6, .int .i64 (↑k6 : Int)), (7, .bool v7), (8, .int .i64 (↑k8 : Int)), (9, .vec 2 r92.length 1), (10, .int .i64 (↑(0 : Nat) : Int))] [(bT (Tapi_Result.enc r_0) 29), (bV (fl e_str b1) 9), (bV (fl e_str r92) 9)], .op none .c, .op none .w, .op none .c])))))) [0, 1] (ps := ((tollwayref47_Fates_L60_p3 r_0 k6 k8 x86 x89) ++ [((!((([116, 58] : List UInt8) ++ x86.ID) == x89.Key)) = false), ((↑k8 : Int) = ((k8 : Nat) : Int) ∧ k8 < r_0.Trips.length), ((fl Tapi_Trip.enc r_0.Trips) ≠ []), (sub (fl Tapi_Trip.enc r_0.Trips) (k8 * 5) 5 = [.str x86.ID, .str x86.Vehicle, .str x86.System, .int .i64 x86.Class, .lst (fl Tapi_Stop.enc x86.Stops) x86.Stops.length]), ((.agg (Tapi_Trip.enc x86) : AV) = .agg (Tapi_Trip.enc x86)), (Ret Tryz.prog GT 21 [.agg (Tapi_Trip.enc x86)] (.vec 0 r92.length 1) [(bV (fl e_str r92) 9)]), ((.str id_1 : AV) = .str id_1), ((.ptr 0 0 : AV) = .ptr 0 0), ((.vec 1 b1.length 1 : AV) = .vec 1 b1.length 1), ((.int .i64 (↑k6 : Int) : AV) = .int .i64 (↑k6 : Int)), ((.bool v7 : AV) = .bool v7), ((.int .i64 (↑k8 : Int) : AV) = .int .i64 (↑k8 : Int)), ((.vec 2 r92.length 1 : AV) = .vec 2 r92.length 1), ((.int .i64 0 : AV) = .int .i64 (↑(0 : Nat) : Int)), (((bT (Tapi_Result.enc r_0) 29) : Blk) = renB [0, 1, 2] (bT (Tapi_Result.enc r_0) 29)), (((bV (fl e_str b1) 9) : Blk) = renB [0, 1, 2] (bV (fl e_str b1) 9)), (((bV (fl e_str r92) 9) : Blk) = renB [0, 1, 2] (bV (fl e_str r92) 9)), (Does Tryz.prog GT 3 (.loop (bodyAt Tryz.prog 7 [1, 1, 0, 1, 0, 0, 1, 0, 0, 1, 0, 1, 0, 0, 1, 0, 0, 1, 1, 1, 0, 0])) (S 97 [(1, .str id_1), (2, .ptr 0 0), (5, .vec 1 b1.length 1), (6, .int .i64 (↑k6 : Int)), (7, .bool v7), (8, .int .i64 (↑k8 : Int)), (9, .vec 2 r92.length 1), (10, .int .i64 (↑(0 : Nat) : Int))] [(bT (Tapi_Result.enc r_0) 29), (bV (fl e_str b1) 9), (bV (fl e_str r92) 9)]) (.exit 4) (S 97 [(1, .str id_1), (2, .ptr 0 0), (5, .vec 1 b1.length 1), (6, .int .i64 (↑k6 : Int)), (7, .bool o94), (8, .int .i64 (↑k8 : Int))] [(bT (Tapi_Result.enc r_0) 29), (bV (fl e_str b1) 9), (bV (fl e_str r92) 9)])), (IntKind.min .i64 ≤ ((↑k8 : Int) + 1) ∧ ((↑k8 : Int) + 1) ≤ IntKind.max .i64)])) (by kernel_rfl) (by kernel_rfl) (allOk_append.2 ⟨(tollwayref47_Fates_L60_p3q r_0 k6 k8 c85 x86 h87 h88 x89 h90), ⟨(not_f (beq_t c91)), ⟨rfl, get_lt h87⟩, (fl_ne (f := Tapi_Trip.enc) (z := 4) (fun _ => rfl) h87), (fl_sub0 (f := Tapi_Trip.enc) (z := 5) (j := k8) (fun _ => rfl) h87 rfl), rfl, (tollwayref21_Passages_ret x86 r92 h93), rfl, rfl, rfl, rfl, rfl, rfl, rfl, rfl, rfl, rfl, rfl, (tollwayref47_Fates_L94_does r_0 id_1 k6 b1 v7 k8 r92 (s := (v7, (0 : Nat))) (r := o94) hl94), ok1 h107⟩⟩)
theorem tollwayref47_Fates_L60_1 (r_0 : Tapi_Result) (id_1 : (List UInt8)) (k6 : Nat) (b1 : (List (List UInt8))) (v7 : Bool) (k8 : Nat) (c85 : (↑k8 : Int) < (↑r_0.Trips.length : Int)) (x86 : Tapi_Trip) (h87 : r_0.Trips[k8]? = some x86) (h88 : ([116, 58] : List UInt8).length + x86.ID.length ≤ 9223372036854775807) (x89 : Tapi_Charge) (h90 : r_0.Charges[k6]? = some x89) (c91 : ¬ ((([116, 58] : List UInt8) ++ x86.ID) = x89.Key)) (h108 : InR .i64 ((↑k8 : Int) + 1)) : Does Tryz.prog GT 2 (bodyAt Tryz.prog 7 [1, 1, 0, 1, 0, 0, 1, 0, 0, 1, 0, 1, 0, 0]) (tollwayref47_Fates_L60_H r_0 id_1 k6 b1 (v7, k8)) .normal (S 97 [(1, .str id_1), (2, .ptr 0 0), (5, .vec 1 b1.length 1), (6, .int .i64 (↑k6 : Int)), (7, .bool v7), (8, .int .i64 ((↑k8 : Int) + 1))] [(bT (Tapi_Result.enc r_0) 29), (bV (fl e_str b1) 9)]) :=
  Does.of_viewM 2 400 ((tollwayref47_Fates_L60_h1) ++ ((tollwayref47_Fates_L60_h2 k6 k8 x86 x89) ++ [.br true, .op none .c, .op none .w, .op none .c])) [0, 1] (ps := ((tollwayref47_Fates_L60_p3 r_0 k6 k8 x86 x89) ++ [((!((([116, 58] : List UInt8) ++ x86.ID) == x89.Key)) = true), (IntKind.min .i64 ≤ ((↑k8 : Int) + 1) ∧ ((↑k8 : Int) + 1) ≤ IntKind.max .i64)])) (by kernel_rfl) (by kernel_rfl) (allOk_append.2 ⟨(tollwayref47_Fates_L60_p3q r_0 k6 k8 c85 x86 h87 h88 x89 h90), ⟨(not_t (beq_f c91)), ok1 h108⟩⟩)
theorem tollwayref47_Fates_L60_2 (r_0 : Tapi_Result) (id_1 : (List UInt8)) (k6 : Nat) (b1 : (List (List UInt8))) (v7 : Bool) (k8 : Nat) (c85 : ¬ ((↑k8 : Int) < (↑r_0.Trips.length : Int))) : Does Tryz.prog GT 2 (bodyAt Tryz.prog 7 [1, 1, 0, 1, 0, 0, 1, 0, 0, 1, 0, 1, 0, 0]) (tollwayref47_Fates_L60_H r_0 id_1 k6 b1 (v7, k8)) (.exit 2) (S 97 [(1, .str id_1), (2, .ptr 0 0), (5, .vec 1 b1.length 1), (6, .int .i64 (↑k6 : Int)), (7, .bool v7)] [(bT (Tapi_Result.enc r_0) 29), (bV (fl e_str b1) 9)]) :=
  Does.of_viewM 2 400 ((tollwayref47_Fates_L60_h1) ++ [.br false]) [0, 1] (ps := [((decide ((↑k8 : Int) < (↑r_0.Trips.length : Int))) = false)]) (by kernel_rfl) (by kernel_rfl) (ok1 (decide_eq_false c85))
def tollwayref47_Fates_L60_X (r_0 : Tapi_Result) (id_1 : (List UInt8)) (k6 : Nat) (b1 : (List (List UInt8))) : Bool → AEx := fun o => (.exit 2)
def tollwayref47_Fates_L60_E (r_0 : Tapi_Result) (id_1 : (List UInt8)) (k6 : Nat) (b1 : (List (List UInt8))) : Bool → St := fun o => S 97 [(1, .str id_1), (2, .ptr 0 0), (5, .vec 1 b1.length 1), (6, .int .i64 (↑k6 : Int)), (7, .bool o)] [(bT (Tapi_Result.enc r_0) 29), (bV (fl e_str b1) 9)]
theorem tollwayref47_Fates_L60_does (r_0 : Tapi_Result) (id_1 : (List UInt8)) (k6 : Nat) (b1 : (List (List UInt8))) {s : (Bool × Nat)} {r : Bool} (h : lp (tollwayref47_Fates_L60_step r_0 id_1 k6 b1) s = some r) : Does Tryz.prog GT 2 (.loop (bodyAt Tryz.prog 7 [1, 1, 0, 1, 0, 0, 1, 0, 0, 1, 0, 1, 0, 0])) (tollwayref47_Fates_L60_H r_0 id_1 k6 b1 s) (tollwayref47_Fates_L60_X r_0 id_1 k6 b1 r) (tollwayref47_Fates_L60_E r_0 id_1 k6 b1 r) := by
  refine Does.lp (H := tollwayref47_Fates_L60_H r_0 id_1 k6 b1) (X := tollwayref47_Fates_L60_X r_0 id_1 k6 b1) (E := tollwayref47_Fates_L60_E r_0 id_1 k6 b1) (fun s s2 h => ?_) (fun s r h => ?_) h
  · obtain ⟨v7, k8⟩ := s
    unfold tollwayref47_Fates_L60_step at h
    try dsimp only at h
    rcases ite_some h with ⟨c85, h⟩ | ⟨c85, h⟩
    · obtain ⟨x86, h87, h⟩ := bind_some h
      obtain ⟨h88, h⟩ := guard_some h
      obtain ⟨x89, h90, h⟩ := bind_some h
      rcases ite_some h with ⟨c91, h⟩ | ⟨c91, h⟩
      · obtain ⟨r92, h93, h⟩ := bind_some h
        obtain ⟨o94, hl94, h⟩ := bind_some h
        obtain ⟨h107, h⟩ := guard_some h
        simp only [Option.some.injEq, Sum.inl.injEq] at h
        subst h
        have hq := tollwayref47_Fates_L60_0 r_0 id_1 k6 b1 v7 k8 c85 x86 h87 h88 x89 h90 c91 r92 h93 o94 hl94 h107
        first | exact hq | exact Eq.mp (by simp only [tollwayref47_Fates_L60_H, List.length_set] <;> rfl) hq
      · obtain ⟨h108, h⟩ := guard_some h
        simp only [Option.some.injEq, Sum.inl.injEq] at h
        subst h
        have hq := tollwayref47_Fates_L60_1 r_0 id_1 k6 b1 v7 k8 c85 x86 h87 h88 x89 h90 c91 h108
        first | exact hq | exact Eq.mp (by simp only [tollwayref47_Fates_L60_H, List.length_set] <;> rfl) hq
    · simp at h
  · obtain ⟨v7, k8⟩ := s
    unfold tollwayref47_Fates_L60_step at h
    try dsimp only at h
    rcases ite_some h with ⟨c85, h⟩ | ⟨c85, h⟩
    · obtain ⟨x86, h87, h⟩ := bind_some h
      obtain ⟨h88, h⟩ := guard_some h
      obtain ⟨x89, h90, h⟩ := bind_some h
      rcases ite_some h with ⟨c91, h⟩ | ⟨c91, h⟩
      · obtain ⟨r92, h93, h⟩ := bind_some h
        obtain ⟨o94, hl94, h⟩ := bind_some h
        obtain ⟨h107, h⟩ := guard_some h
        simp at h
      · obtain ⟨h108, h⟩ := guard_some h
        simp at h
    · simp only [Option.some.injEq, Sum.inr.injEq] at h
      subst h
      exact ⟨tollwayref47_Fates_L60_2 r_0 id_1 k6 b1 v7 k8 c85, by intro q; cases q⟩
noncomputable def tollwayref47_Fates_L1_step (r_0 : Tapi_Result) (id_1 : (List UInt8)) : (Nat × (List (List UInt8))) → Option ((Nat × (List (List UInt8))) ⊕ (List (List UInt8)))
  | (k6, b1) =>
    if (↑k6 : Int) < (↑r_0.Charges.length : Int) then
      (lp (tollwayref47_Fates_L60_step r_0 id_1 k6 b1) (false, (0 : Nat))).bind fun o60 =>
      if o60 = true then
        (r_0.Charges[k6]?).bind fun x110 =>
        (tollwayref47_insert b1 x110.Key).bind fun r112 =>
        if InR .i64 ((↑k6 : Int) + 1) then
          some (Sum.inl ((k6 + 1), r112))
        else none
      else
        if InR .i64 ((↑k6 : Int) + 1) then
          some (Sum.inl ((k6 + 1), b1))
        else none
    else
      some (Sum.inr b1)
def tollwayref47_Fates_L1_H (r_0 : Tapi_Result) (id_1 : (List UInt8)) : (Nat × (List (List UInt8))) → St := fun (s : (Nat × (List (List UInt8)))) => S 97 [(1, .str id_1), (2, .ptr 0 0), (5, .vec 1 s.2.length 1), (6, .int .i64 (↑s.1 : Int))] [(bT (Tapi_Result.enc r_0) 29), (bV (fl e_str s.2) 9)]
def tollwayref47_Fates_L1_h1  : List CH := (cs 4 [.op none .a])
def tollwayref47_Fates_L1_h2 (r_0 : Tapi_Result) (id_1 : (List UInt8)) (k6 : Nat) (b1 : (List (List UInt8))) (o60 : Bool) : List CH := ((.br true) :: (cs 2 [.fcut 2 (.exit 2) [(1, .str id_1), (2, .ptr 0 0), (5, .vec 1 b1.length 1), (6, .int .i64 (↑k6 : Int)), (7, .bool o60)] [(bT (Tapi_Result.enc r_0) 29), (bV (fl e_str b1) 9)] [0, 1] [(1, .str id_1), (2, .ptr 0 0), (5, .vec 1 b1.length 1), (6, .int .i64 (↑k6 : Int)), (7, .bool false), (8, .int .i64 (↑(0 : Nat) : Int))] [(bT (Tapi_Result.enc r_0) 29), (bV (fl e_str b1) 9)], .op none .c]))
def tollwayref47_Fates_L1_p3 (r_0 : Tapi_Result) (id_1 : (List UInt8)) (k6 : Nat) (b1 : (List (List UInt8))) (o60 : Bool) : List Prop := [((decide ((↑k6 : Int) < (↑r_0.Charges.length : Int))) = true), ((.str id_1 : AV) = .str id_1), ((.ptr 0 0 : AV) = .ptr 0 0), ((.vec 1 b1.length 1 : AV) = .vec 1 b1.length 1), ((.int .i64 (↑k6 : Int) : AV) = .int .i64 (↑k6 : Int)), ((.bool false : AV) = .bool false), ((.int .i64 0 : AV) = .int .i64 (↑(0 : Nat) : Int)), (((bT (Tapi_Result.enc r_0) 29) : Blk) = renB [0, 1] (bT (Tapi_Result.enc r_0) 29)), (((bV (fl e_str b1) 9) : Blk) = renB [0, 1] (bV (fl e_str b1) 9)), (Does Tryz.prog GT 2 (.loop (bodyAt Tryz.prog 7 [1, 1, 0, 1, 0, 0, 1, 0, 0, 1, 0, 1, 0, 0])) (S 97 [(1, .str id_1), (2, .ptr 0 0), (5, .vec 1 b1.length 1), (6, .int .i64 (↑k6 : Int)), (7, .bool false), (8, .int .i64 (↑(0 : Nat) : Int))] [(bT (Tapi_Result.enc r_0) 29), (bV (fl e_str b1) 9)]) (.exit 2) (S 97 [(1, .str id_1), (2, .ptr 0 0), (5, .vec 1 b1.length 1), (6, .int .i64 (↑k6 : Int)), (7, .bool o60)] [(bT (Tapi_Result.enc r_0) 29), (bV (fl e_str b1) 9)]))]
theorem tollwayref47_Fates_L1_p3q (r_0 : Tapi_Result) (id_1 : (List UInt8)) (k6 : Nat) (b1 : (List (List UInt8))) (c59 : (↑k6 : Int) < (↑r_0.Charges.length : Int)) (o60 : Bool) (hl60 : lp (tollwayref47_Fates_L60_step r_0 id_1 k6 b1) (false, (0 : Nat)) = some o60) : allOk (tollwayref47_Fates_L1_p3 r_0 id_1 k6 b1 o60) := ⟨(decide_eq_true c59), rfl, rfl, rfl, rfl, rfl, rfl, rfl, rfl, ok1 (tollwayref47_Fates_L60_does r_0 id_1 k6 b1 (s := (false, (0 : Nat))) (r := o60) hl60)⟩
theorem tollwayref47_Fates_L1_0 (r_0 : Tapi_Result) (id_1 : (List UInt8)) (k6 : Nat) (b1 : (List (List UInt8))) (c59 : (↑k6 : Int) < (↑r_0.Charges.length : Int)) (o60 : Bool) (hl60 : lp (tollwayref47_Fates_L60_step r_0 id_1 k6 b1) (false, (0 : Nat)) = some o60) (c109 : o60 = true) (x110 : Tapi_Charge) (h111 : r_0.Charges[k6]? = some x110) (r112 : (List (List UInt8))) (h113 : tollwayref47_insert b1 x110.Key = some r112) (h114 : InR .i64 ((↑k6 : Int) + 1)) : Does Tryz.prog GT 1 (bodyAt Tryz.prog 7 [1, 1, 0, 1, 0, 0]) (tollwayref47_Fates_L1_H r_0 id_1 (k6, b1)) .normal (S 97 [(1, .str id_1), (2, .ptr 0 0), (5, .vec 1 r112.length 1), (6, .int .i64 ((↑k6 : Int) + 1))] [(bT (Tapi_Result.enc r_0) 29), (bV (fl e_str r112) 9)]) :=
  Does.of_viewM 1 400 ((tollwayref47_Fates_L1_h1) ++ ((tollwayref47_Fates_L1_h2 r_0 id_1 k6 b1 o60) ++ ((.br true) :: (cs 4 ((.op none (.i k6)) :: (.op none .c) :: (.op none (.v [.str x110.Key])) :: (.ret none [.lst (fl e_str b1) b1.length, .str x110.Key] (.vec 0 r112.length 1) [(bV (fl e_str r112) 9)]) :: (cs 2 [.op none .w, .op none .c])))))) [0, 4] (ps := ((tollwayref47_Fates_L1_p3 r_0 id_1 k6 b1 o60) ++ [(o60 = true), ((↑k6 : Int) = ((k6 : Nat) : Int) ∧ k6 < r_0.Charges.length), ((fl Tapi_Charge.enc r_0.Charges) ≠ []), (sub (fl Tapi_Charge.enc r_0.Charges) (k6 * 7) 1 = [.str x110.Key]), ((fl e_str b1) = (fl e_str b1) ∧ b1.length = b1.length ∧ List.length ((fl e_str b1) : List AV) = b1.length), ((.str x110.Key : AV) = .str x110.Key), (datBlks [(bV (fl e_str r112) 9)]), (Ret Tryz.prog GT 22 [.lst (fl e_str b1) b1.length, .str x110.Key] (.vec 0 r112.length 1) [(bV (fl e_str r112) 9)]), (IntKind.min .i64 ≤ ((↑k6 : Int) + 1) ∧ ((↑k6 : Int) + 1) ≤ IntKind.max .i64)])) (by kernel_rfl) (by kernel_rfl) (allOk_append.2 ⟨(tollwayref47_Fates_L1_p3q r_0 id_1 k6 b1 c59 o60 hl60), ⟨c109, ⟨rfl, get_lt h111⟩, (fl_ne (f := Tapi_Charge.enc) (z := 6) (fun _ => rfl) h111), (fl_sub (f := Tapi_Charge.enc) (z := 7) (j := k6) (a := 0) (n := 1) (fun _ => rfl) h111 (by decide) rfl), ⟨rfl, rfl, (fl_length1 (f := e_str) (fun _ => rfl) _)⟩, rfl, ⟨(fl_dat (f := e_str) (fun _ => rfl)), trivial⟩, (tollwayref47_insert_ret b1 x110.Key r112 h113), ok1 h114⟩⟩)
theorem tollwayref47_Fates_L1_1 (r_0 : Tapi_Result) (id_1 : (List UInt8)) (k6 : Nat) (b1 : (List (List UInt8))) (c59 : (↑k6 : Int) < (↑r_0.Charges.length : Int)) (o60 : Bool) (hl60 : lp (tollwayref47_Fates_L60_step r_0 id_1 k6 b1) (false, (0 : Nat)) = some o60) (c109 : ¬ (o60 = true)) (h115 : InR .i64 ((↑k6 : Int) + 1)) : Does Tryz.prog GT 1 (bodyAt Tryz.prog 7 [1, 1, 0, 1, 0, 0]) (tollwayref47_Fates_L1_H r_0 id_1 (k6, b1)) .normal (S 97 [(1, .str id_1), (2, .ptr 0 0), (5, .vec 1 b1.length 1), (6, .int .i64 ((↑k6 : Int) + 1))] [(bT (Tapi_Result.enc r_0) 29), (bV (fl e_str b1) 9)]) :=
  Does.of_viewM 1 400 ((tollwayref47_Fates_L1_h1) ++ ((tollwayref47_Fates_L1_h2 r_0 id_1 k6 b1 o60) ++ [.br false, .op none .c, .op none .w, .op none .c])) [0, 1] (ps := ((tollwayref47_Fates_L1_p3 r_0 id_1 k6 b1 o60) ++ [(o60 = false), (IntKind.min .i64 ≤ ((↑k6 : Int) + 1) ∧ ((↑k6 : Int) + 1) ≤ IntKind.max .i64)])) (by kernel_rfl) (by kernel_rfl) (allOk_append.2 ⟨(tollwayref47_Fates_L1_p3q r_0 id_1 k6 b1 c59 o60 hl60), ⟨(eq_false_of_ne_true c109), ok1 h115⟩⟩)
theorem tollwayref47_Fates_L1_2 (r_0 : Tapi_Result) (id_1 : (List UInt8)) (k6 : Nat) (b1 : (List (List UInt8))) (c59 : ¬ ((↑k6 : Int) < (↑r_0.Charges.length : Int))) : Does Tryz.prog GT 1 (bodyAt Tryz.prog 7 [1, 1, 0, 1, 0, 0]) (tollwayref47_Fates_L1_H r_0 id_1 (k6, b1)) (.exit 0) (S 97 [(1, .str id_1), (2, .ptr 0 0), (5, .vec 1 b1.length 1)] [(bT (Tapi_Result.enc r_0) 29), (bV (fl e_str b1) 9)]) :=
  Does.of_viewM 1 400 ((tollwayref47_Fates_L1_h1) ++ [.br false]) [0, 1] (ps := [((decide ((↑k6 : Int) < (↑r_0.Charges.length : Int))) = false)]) (by kernel_rfl) (by kernel_rfl) (ok1 (decide_eq_false c59))
def tollwayref47_Fates_L1_X (r_0 : Tapi_Result) (id_1 : (List UInt8)) : (List (List UInt8)) → AEx := fun o => (.exit 0)
def tollwayref47_Fates_L1_E (r_0 : Tapi_Result) (id_1 : (List UInt8)) : (List (List UInt8)) → St := fun o => S 97 [(1, .str id_1), (2, .ptr 0 0), (5, .vec 1 o.length 1)] [(bT (Tapi_Result.enc r_0) 29), (bV (fl e_str o) 9)]
theorem tollwayref47_Fates_L1_does (r_0 : Tapi_Result) (id_1 : (List UInt8)) {s : (Nat × (List (List UInt8)))} {r : (List (List UInt8))} (h : lp (tollwayref47_Fates_L1_step r_0 id_1) s = some r) : Does Tryz.prog GT 1 (.loop (bodyAt Tryz.prog 7 [1, 1, 0, 1, 0, 0])) (tollwayref47_Fates_L1_H r_0 id_1 s) (tollwayref47_Fates_L1_X r_0 id_1 r) (tollwayref47_Fates_L1_E r_0 id_1 r) := by
  refine Does.lp (H := tollwayref47_Fates_L1_H r_0 id_1) (X := tollwayref47_Fates_L1_X r_0 id_1) (E := tollwayref47_Fates_L1_E r_0 id_1) (fun s s2 h => ?_) (fun s r h => ?_) h
  · obtain ⟨k6, b1⟩ := s
    unfold tollwayref47_Fates_L1_step at h
    try dsimp only at h
    rcases ite_some h with ⟨c59, h⟩ | ⟨c59, h⟩
    · obtain ⟨o60, hl60, h⟩ := bind_some h
      rcases ite_some h with ⟨c109, h⟩ | ⟨c109, h⟩
      · obtain ⟨x110, h111, h⟩ := bind_some h
        obtain ⟨r112, h113, h⟩ := bind_some h
        obtain ⟨h114, h⟩ := guard_some h
        simp only [Option.some.injEq, Sum.inl.injEq] at h
        subst h
        have hq := tollwayref47_Fates_L1_0 r_0 id_1 k6 b1 c59 o60 hl60 c109 x110 h111 r112 h113 h114
        first | exact hq | exact Eq.mp (by simp only [tollwayref47_Fates_L1_H, List.length_set] <;> rfl) hq
      · obtain ⟨h115, h⟩ := guard_some h
        simp only [Option.some.injEq, Sum.inl.injEq] at h
        subst h
        have hq := tollwayref47_Fates_L1_1 r_0 id_1 k6 b1 c59 o60 hl60 c109 h115
        first | exact hq | exact Eq.mp (by simp only [tollwayref47_Fates_L1_H, List.length_set] <;> rfl) hq
    · simp at h
  · obtain ⟨k6, b1⟩ := s
    unfold tollwayref47_Fates_L1_step at h
    try dsimp only at h
    rcases ite_some h with ⟨c59, h⟩ | ⟨c59, h⟩
    · obtain ⟨o60, hl60, h⟩ := bind_some h
      rcases ite_some h with ⟨c109, h⟩ | ⟨c109, h⟩
      · obtain ⟨x110, h111, h⟩ := bind_some h
        obtain ⟨r112, h113, h⟩ := bind_some h
        obtain ⟨h114, h⟩ := guard_some h
        simp at h
      · obtain ⟨h115, h⟩ := guard_some h
        simp at h
    · simp only [Option.some.injEq, Sum.inr.injEq] at h
      subst h
      exact ⟨tollwayref47_Fates_L1_2 r_0 id_1 k6 b1 c59, by intro q; cases q⟩
noncomputable def tollwayref47_Fates_L116_step (r_0 : Tapi_Result) (id_1 : (List UInt8)) : (Nat × (List (List UInt8))) → Option ((Nat × (List (List UInt8))) ⊕ (List (List UInt8)))
  | (k11, b3) =>
    if (↑k11 : Int) < (↑r_0.Exclusions.length : Int) then
      (r_0.Exclusions[k11]?).bind fun x129 =>
      if x129.ID = id_1 then
        (tollwayref01_Format x129.Why).bind fun r132 =>
        if ([120, 58] : List UInt8).length + r132.length ≤ 9223372036854775807 then
          (tollwayref47_insert b3 (([120, 58] : List UInt8) ++ r132)).bind fun r135 =>
          if InR .i64 ((↑k11 : Int) + 1) then
            some (Sum.inl ((k11 + 1), r135))
          else none
        else none
      else
        if InR .i64 ((↑k11 : Int) + 1) then
          some (Sum.inl ((k11 + 1), b3))
        else none
    else
      some (Sum.inr b3)
def tollwayref47_Fates_L116_H (r_0 : Tapi_Result) (id_1 : (List UInt8)) : (Nat × (List (List UInt8))) → St := fun (s : (Nat × (List (List UInt8)))) => S 97 [(1, .str id_1), (2, .ptr 0 0), (5, .vec 1 s.2.length 1), (11, .int .i64 (↑s.1 : Int))] [(bT (Tapi_Result.enc r_0) 29), (bV (fl e_str s.2) 9)]
def tollwayref47_Fates_L116_h1  : List CH := (cs 4 [.op none .a])
def tollwayref47_Fates_L116_h2 (k11 : Nat) (x129 : Tapi_Exclusion) : List CH := ((.br true) :: (cs 3 [.op none (.i k11), .op none .c, .op none (.v [.str x129.ID]), .op none .c, .op none .a]))
def tollwayref47_Fates_L116_p3 (r_0 : Tapi_Result) (k11 : Nat) (x129 : Tapi_Exclusion) : List Prop := [((decide ((↑k11 : Int) < (↑r_0.Exclusions.length : Int))) = true), ((↑k11 : Int) = ((k11 : Nat) : Int) ∧ k11 < r_0.Exclusions.length), ((fl Tapi_Exclusion.enc r_0.Exclusions) ≠ []), (sub (fl Tapi_Exclusion.enc r_0.Exclusions) (k11 * 2) 1 = [.str x129.ID])]
theorem tollwayref47_Fates_L116_p3q (r_0 : Tapi_Result) (k11 : Nat) (c128 : (↑k11 : Int) < (↑r_0.Exclusions.length : Int)) (x129 : Tapi_Exclusion) (h130 : r_0.Exclusions[k11]? = some x129) : allOk (tollwayref47_Fates_L116_p3 r_0 k11 x129) := ⟨(decide_eq_true c128), ⟨rfl, get_lt h130⟩, (fl_ne (f := Tapi_Exclusion.enc) (z := 1) (fun _ => rfl) h130), ok1 (fl_sub (f := Tapi_Exclusion.enc) (z := 2) (j := k11) (a := 0) (n := 1) (fun _ => rfl) h130 (by decide) rfl)⟩
theorem tollwayref47_Fates_L116_0 (r_0 : Tapi_Result) (id_1 : (List UInt8)) (k11 : Nat) (b3 : (List (List UInt8))) (c128 : (↑k11 : Int) < (↑r_0.Exclusions.length : Int)) (x129 : Tapi_Exclusion) (h130 : r_0.Exclusions[k11]? = some x129) (c131 : x129.ID = id_1) (r132 : (List UInt8)) (h133 : tollwayref01_Format x129.Why = some r132) (h134 : ([120, 58] : List UInt8).length + r132.length ≤ 9223372036854775807) (r135 : (List (List UInt8))) (h136 : tollwayref47_insert b3 (([120, 58] : List UInt8) ++ r132) = some r135) (h137 : InR .i64 ((↑k11 : Int) + 1)) : Does Tryz.prog GT 1 (bodyAt Tryz.prog 7 [1, 1, 1, 0, 1, 0, 0]) (tollwayref47_Fates_L116_H r_0 id_1 (k11, b3)) .normal (S 97 [(1, .str id_1), (2, .ptr 0 0), (5, .vec 1 r135.length 1), (11, .int .i64 ((↑k11 : Int) + 1))] [(bT (Tapi_Result.enc r_0) 29), (bV (fl e_str r135) 9)]) :=
  Does.of_viewM 1 400 ((tollwayref47_Fates_L116_h1) ++ ((tollwayref47_Fates_L116_h2 k11 x129) ++ ((.br true) :: (cs 4 ((.op none (.i k11)) :: (.op none .c) :: (.op none (.v [.int .i64 x129.Why])) :: (.ret none [.int .i64 x129.Why] (.str r132) []) :: (.op none .a) :: (.ret none [.lst (fl e_str b3) b3.length, .str (([120, 58] : List UInt8) ++ r132)] (.vec 0 r135.length 1) [(bV (fl e_str r135) 9)]) :: (cs 2 [.op none .w, .op none .c])))))) [0, 2] (ps := ((tollwayref47_Fates_L116_p3 r_0 k11 x129) ++ [((x129.ID == id_1) = true), ((↑k11 : Int) = ((k11 : Nat) : Int) ∧ k11 < r_0.Exclusions.length), ((fl Tapi_Exclusion.enc r_0.Exclusions) ≠ []), (sub (fl Tapi_Exclusion.enc r_0.Exclusions) ((k11 * 2) + 1) 1 = [.int .i64 x129.Why]), ((.int .i64 x129.Why : AV) = .int .i64 x129.Why), (Ret Tryz.prog GT 23 [.int .i64 x129.Why] (.str r132) []), (([120, 58] : List UInt8).length + r132.length ≤ 9223372036854775807), ((fl e_str b3) = (fl e_str b3) ∧ b3.length = b3.length ∧ List.length ((fl e_str b3) : List AV) = b3.length), ((.str (([120, 58] : List UInt8) ++ r132) : AV) = .str (([120, 58] : List UInt8) ++ r132)), (datBlks [(bV (fl e_str r135) 9)]), (Ret Tryz.prog GT 22 [.lst (fl e_str b3) b3.length, .str (([120, 58] : List UInt8) ++ r132)] (.vec 0 r135.length 1) [(bV (fl e_str r135) 9)]), (IntKind.min .i64 ≤ ((↑k11 : Int) + 1) ∧ ((↑k11 : Int) + 1) ≤ IntKind.max .i64)])) (by kernel_rfl) (by kernel_rfl) (allOk_append.2 ⟨(tollwayref47_Fates_L116_p3q r_0 k11 c128 x129 h130), ⟨(beq_t c131), ⟨rfl, get_lt h130⟩, (fl_ne (f := Tapi_Exclusion.enc) (z := 1) (fun _ => rfl) h130), (fl_sub (f := Tapi_Exclusion.enc) (z := 2) (j := k11) (a := 1) (n := 1) (fun _ => rfl) h130 (by decide) rfl), rfl, (tollwayref01_Format_ret x129.Why r132 h133), h134, ⟨rfl, rfl, (fl_length1 (f := e_str) (fun _ => rfl) _)⟩, rfl, ⟨(fl_dat (f := e_str) (fun _ => rfl)), trivial⟩, (tollwayref47_insert_ret b3 (([120, 58] : List UInt8) ++ r132) r135 h136), ok1 h137⟩⟩)
theorem tollwayref47_Fates_L116_1 (r_0 : Tapi_Result) (id_1 : (List UInt8)) (k11 : Nat) (b3 : (List (List UInt8))) (c128 : (↑k11 : Int) < (↑r_0.Exclusions.length : Int)) (x129 : Tapi_Exclusion) (h130 : r_0.Exclusions[k11]? = some x129) (c131 : ¬ (x129.ID = id_1)) (h138 : InR .i64 ((↑k11 : Int) + 1)) : Does Tryz.prog GT 1 (bodyAt Tryz.prog 7 [1, 1, 1, 0, 1, 0, 0]) (tollwayref47_Fates_L116_H r_0 id_1 (k11, b3)) .normal (S 97 [(1, .str id_1), (2, .ptr 0 0), (5, .vec 1 b3.length 1), (11, .int .i64 ((↑k11 : Int) + 1))] [(bT (Tapi_Result.enc r_0) 29), (bV (fl e_str b3) 9)]) :=
  Does.of_viewM 1 400 ((tollwayref47_Fates_L116_h1) ++ ((tollwayref47_Fates_L116_h2 k11 x129) ++ [.br false, .op none .c, .op none .w, .op none .c])) [0, 1] (ps := ((tollwayref47_Fates_L116_p3 r_0 k11 x129) ++ [((x129.ID == id_1) = false), (IntKind.min .i64 ≤ ((↑k11 : Int) + 1) ∧ ((↑k11 : Int) + 1) ≤ IntKind.max .i64)])) (by kernel_rfl) (by kernel_rfl) (allOk_append.2 ⟨(tollwayref47_Fates_L116_p3q r_0 k11 c128 x129 h130), ⟨(beq_f c131), ok1 h138⟩⟩)
theorem tollwayref47_Fates_L116_2 (r_0 : Tapi_Result) (id_1 : (List UInt8)) (k11 : Nat) (b3 : (List (List UInt8))) (c128 : ¬ ((↑k11 : Int) < (↑r_0.Exclusions.length : Int))) : Does Tryz.prog GT 1 (bodyAt Tryz.prog 7 [1, 1, 1, 0, 1, 0, 0]) (tollwayref47_Fates_L116_H r_0 id_1 (k11, b3)) (.exit 6) (S 97 [(5, .vec 1 b3.length 1)] [(bT (Tapi_Result.enc r_0) 29), (bV (fl e_str b3) 9)]) :=
  Does.of_viewM 1 400 ((tollwayref47_Fates_L116_h1) ++ [.br false]) [0, 1] (ps := [((decide ((↑k11 : Int) < (↑r_0.Exclusions.length : Int))) = false)]) (by kernel_rfl) (by kernel_rfl) (ok1 (decide_eq_false c128))
def tollwayref47_Fates_L116_X (r_0 : Tapi_Result) (id_1 : (List UInt8)) : (List (List UInt8)) → AEx := fun o => (.exit 6)
def tollwayref47_Fates_L116_E (r_0 : Tapi_Result) (id_1 : (List UInt8)) : (List (List UInt8)) → St := fun o => S 97 [(5, .vec 1 o.length 1)] [(bT (Tapi_Result.enc r_0) 29), (bV (fl e_str o) 9)]
theorem tollwayref47_Fates_L116_does (r_0 : Tapi_Result) (id_1 : (List UInt8)) {s : (Nat × (List (List UInt8)))} {r : (List (List UInt8))} (h : lp (tollwayref47_Fates_L116_step r_0 id_1) s = some r) : Does Tryz.prog GT 1 (.loop (bodyAt Tryz.prog 7 [1, 1, 1, 0, 1, 0, 0])) (tollwayref47_Fates_L116_H r_0 id_1 s) (tollwayref47_Fates_L116_X r_0 id_1 r) (tollwayref47_Fates_L116_E r_0 id_1 r) := by
  refine Does.lp (H := tollwayref47_Fates_L116_H r_0 id_1) (X := tollwayref47_Fates_L116_X r_0 id_1) (E := tollwayref47_Fates_L116_E r_0 id_1) (fun s s2 h => ?_) (fun s r h => ?_) h
  · obtain ⟨k11, b3⟩ := s
    unfold tollwayref47_Fates_L116_step at h
    try dsimp only at h
    rcases ite_some h with ⟨c128, h⟩ | ⟨c128, h⟩
    · obtain ⟨x129, h130, h⟩ := bind_some h
      rcases ite_some h with ⟨c131, h⟩ | ⟨c131, h⟩
      · obtain ⟨r132, h133, h⟩ := bind_some h
        obtain ⟨h134, h⟩ := guard_some h
        obtain ⟨r135, h136, h⟩ := bind_some h
        obtain ⟨h137, h⟩ := guard_some h
        simp only [Option.some.injEq, Sum.inl.injEq] at h
        subst h
        have hq := tollwayref47_Fates_L116_0 r_0 id_1 k11 b3 c128 x129 h130 c131 r132 h133 h134 r135 h136 h137
        first | exact hq | exact Eq.mp (by simp only [tollwayref47_Fates_L116_H, List.length_set] <;> rfl) hq
      · obtain ⟨h138, h⟩ := guard_some h
        simp only [Option.some.injEq, Sum.inl.injEq] at h
        subst h
        have hq := tollwayref47_Fates_L116_1 r_0 id_1 k11 b3 c128 x129 h130 c131 h138
        first | exact hq | exact Eq.mp (by simp only [tollwayref47_Fates_L116_H, List.length_set] <;> rfl) hq
    · simp at h
  · obtain ⟨k11, b3⟩ := s
    unfold tollwayref47_Fates_L116_step at h
    try dsimp only at h
    rcases ite_some h with ⟨c128, h⟩ | ⟨c128, h⟩
    · obtain ⟨x129, h130, h⟩ := bind_some h
      rcases ite_some h with ⟨c131, h⟩ | ⟨c131, h⟩
      · obtain ⟨r132, h133, h⟩ := bind_some h
        obtain ⟨h134, h⟩ := guard_some h
        obtain ⟨r135, h136, h⟩ := bind_some h
        obtain ⟨h137, h⟩ := guard_some h
        simp at h
      · obtain ⟨h138, h⟩ := guard_some h
        simp at h
    · simp only [Option.some.injEq, Sum.inr.injEq] at h
      subst h
      exact ⟨tollwayref47_Fates_L116_2 r_0 id_1 k11 b3 c128, by intro q; cases q⟩
noncomputable def tollwayref47_Fates (r_0 : Tapi_Result) (id_1 : (List UInt8)) : Option (List (List UInt8)) :=
  (lp (tollwayref47_Fates_L1_step r_0 id_1) ((0 : Nat), ([] : (List (List UInt8))))).bind fun o1 =>
  (lp (tollwayref47_Fates_L116_step r_0 id_1) ((0 : Nat), o1)).bind fun o116 =>
  some o116
theorem tollwayref47_Fates_0 (r_0 : Tapi_Result) (id_1 : (List UInt8)) (o1 : (List (List UInt8))) (hl1 : lp (tollwayref47_Fates_L1_step r_0 id_1) ((0 : Nat), ([] : (List (List UInt8)))) = some o1) (o116 : (List (List UInt8))) (hl116 : lp (tollwayref47_Fates_L116_step r_0 id_1) ((0 : Nat), o1) = some o116) : Ret Tryz.prog GT 7 [.agg (Tapi_Result.enc r_0), .str id_1] (.vec 0 o116.length 1) [(bV (fl e_str o116) 9)] :=
  Ret.of_view 400 (cs 5 ((.tr (.wid (.t 5))) :: (.fcut 1 (.exit 0) [(1, .str id_1), (2, .ptr 0 0), (5, .vec 1 o1.length 1)] [(bT (Tapi_Result.enc r_0) 29), (bV (fl e_str o1) 9)] [0, 1] [(1, .str id_1), (2, .ptr 0 0), (5, .vec 1 (([] : (List (List UInt8))).length) 1), (6, .int .i64 (↑(0 : Nat) : Int))] [(bT (Tapi_Result.enc r_0) 29), (bV (fl e_str ([] : (List (List UInt8)))) 9)]) :: (.op none .c) :: (.fcut 1 (.exit 6) [(5, .vec 1 o116.length 1)] [(bT (Tapi_Result.enc r_0) 29), (bV (fl e_str o116) 9)] [0, 3] [(1, .str id_1), (2, .ptr 0 0), (5, .vec 1 o1.length 1), (11, .int .i64 (↑(0 : Nat) : Int))] [(bT (Tapi_Result.enc r_0) 29), (bV (fl e_str o1) 9)]) :: (cs 2 []))) [5] (ps := [(0 ≤ 0), ((.str id_1 : AV) = .str id_1), ((.ptr 0 0 : AV) = .ptr 0 0), ((.vec 1 0 1 : AV) = .vec 1 (([] : (List (List UInt8))).length) 1), ((.int .i64 0 : AV) = .int .i64 (↑(0 : Nat) : Int)), (((bT (Tapi_Result.enc r_0) 29) : Blk) = renB [0, 1] (bT (Tapi_Result.enc r_0) 29)), (((bV [] 9) : Blk) = renB [0, 1] (bV (fl e_str ([] : (List (List UInt8)))) 9)), (Does Tryz.prog GT 1 (.loop (bodyAt Tryz.prog 7 [1, 1, 0, 1, 0, 0])) (S 97 [(1, .str id_1), (2, .ptr 0 0), (5, .vec 1 (([] : (List (List UInt8))).length) 1), (6, .int .i64 (↑(0 : Nat) : Int))] [(bT (Tapi_Result.enc r_0) 29), (bV (fl e_str ([] : (List (List UInt8)))) 9)]) (.exit 0) (S 97 [(1, .str id_1), (2, .ptr 0 0), (5, .vec 1 o1.length 1)] [(bT (Tapi_Result.enc r_0) 29), (bV (fl e_str o1) 9)])), ((.str id_1 : AV) = .str id_1), ((.ptr 0 0 : AV) = .ptr 0 0), ((.vec 3 o1.length 1 : AV) = .vec 3 o1.length 1), ((.int .i64 0 : AV) = .int .i64 (↑(0 : Nat) : Int)), (((bT (Tapi_Result.enc r_0) 29) : Blk) = renB [0, 3] (bT (Tapi_Result.enc r_0) 29)), (((bV (fl e_str o1) 9) : Blk) = renB [0, 3] (bV (fl e_str o1) 9)), (Does Tryz.prog GT 1 (.loop (bodyAt Tryz.prog 7 [1, 1, 1, 0, 1, 0, 0])) (S 97 [(1, .str id_1), (2, .ptr 0 0), (5, .vec 1 o1.length 1), (11, .int .i64 (↑(0 : Nat) : Int))] [(bT (Tapi_Result.enc r_0) 29), (bV (fl e_str o1) 9)]) (.exit 6) (S 97 [(5, .vec 1 o116.length 1)] [(bT (Tapi_Result.enc r_0) 29), (bV (fl e_str o116) 9)]))]) (by kernel_rfl) (by kernel_rfl) ⟨(Nat.le_refl _), rfl, rfl, (by first | rfl | simp only [List.length_replicate, List.length_set]), rfl, rfl, rfl, (tollwayref47_Fates_L1_does r_0 id_1 (s := ((0 : Nat), ([] : (List (List UInt8))))) (r := o1) hl1), rfl, rfl, (by first | rfl | simp only [List.length_replicate, List.length_set]), rfl, rfl, rfl, ok1 (tollwayref47_Fates_L116_does r_0 id_1 (s := ((0 : Nat), o1)) (r := o116) hl116)⟩
theorem tollwayref47_Fates_ret (r_0 : Tapi_Result) (id_1 : (List UInt8)) (r : (List (List UInt8))) (h : tollwayref47_Fates r_0 id_1 = some r) : Ret Tryz.prog GT 7 [.agg (Tapi_Result.enc r_0), .str id_1] (.vec 0 r.length 1) [(bV (fl e_str r) 9)] := by
  unfold tollwayref47_Fates at h
  obtain ⟨o1, hl1, h⟩ := bind_some h
  obtain ⟨o116, hl116, h⟩ := bind_some h
  simp only [Option.some.injEq] at h
  subst h
  exact tollwayref47_Fates_0 r_0 id_1 o1 hl1 o116 hl116
end Go.Proofs.YtnlaiahcemckkaaGreatDoor.Av
