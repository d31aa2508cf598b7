import Derived.Test.YtalobodhbbkgdabDoorAvX
import Derived.Test.YtalobodhbbkgdabDoorProg
import Derived.Tactics
import Derived.Test.YtalobodhbbkgdabDoorR0
set_option linter.unusedVariables false
set_option linter.unusedSimpArgs false
set_option maxHeartbeats 4000000
namespace Go.Proofs.YtalobodhbbkgdabDoor.Av
open Go Go.Proofs
structure Tapi_Source where
  Device : (List UInt8)
  Seq : Int
def Tapi_Source.enc (x : Tapi_Source) : List AV := [.str x.Device, .int .i64 x.Seq]
structure Tapi_Passage where
  ID : (List UInt8)
  Point : (List UInt8)
  Time : Int
  Tag : (List UInt8)
  Plate : (List UInt8)
  Class : Int
  Score : Int
  Sources : (List Tapi_Source)
def Tapi_Passage.enc (x : Tapi_Passage) : List AV := [.str x.ID, .str x.Point, .int .i64 x.Time, .str x.Tag, .str x.Plate, .int .i64 x.Class, .int .i64 x.Score, .lst (fl Tapi_Source.enc x.Sources) x.Sources.length]
structure Tapi_Detection where
  Device : (List UInt8)
  Seq : Int
  Time : Int
  Tag : (List UInt8)
  Plate : (List UInt8)
  Axles : Int
  Score : Int
def Tapi_Detection.enc (x : Tapi_Detection) : List AV := [.str x.Device, .int .i64 x.Seq, .int .i64 x.Time, .str x.Tag, .str x.Plate, .int .i64 x.Axles, .int .i64 x.Score]
structure Tapi_Reject where
  D : Tapi_Detection
  Why : Int
def Tapi_Reject.enc (x : Tapi_Reject) : List AV := [.str x.D.Device, .int .i64 x.D.Seq, .int .i64 x.D.Time, .str x.D.Tag, .str x.D.Plate, .int .i64 x.D.Axles, .int .i64 x.D.Score, .int .i64 x.Why]
structure Tapi_Stop where
  Point : (List UInt8)
  Time : Int
  Passage : (List UInt8)
def Tapi_Stop.enc (x : Tapi_Stop) : List AV := [.str x.Point, .int .i64 x.Time, .str x.Passage]
structure Tapi_Trip where
  ID : (List UInt8)
  Vehicle : (List UInt8)
  System : (List UInt8)
  Class : Int
  Stops : (List Tapi_Stop)
def Tapi_Trip.enc (x : Tapi_Trip) : List AV := [.str x.ID, .str x.Vehicle, .str x.System, .int .i64 x.Class, .lst (fl Tapi_Stop.enc x.Stops) x.Stops.length]
structure Tapi_Interval where
  From : Int
  To : Int
def Tapi_Interval.enc (x : Tapi_Interval) : List AV := [.int .i64 x.From, .int .i64 x.To]
structure Tapi_Stay where
  ID : (List UInt8)
  Zone : (List UInt8)
  Plate : (List UInt8)
  Time : Tapi_Interval
def Tapi_Stay.enc (x : Tapi_Stay) : List AV := [.str x.ID, .str x.Zone, .str x.Plate, .int .i64 x.Time.From, .int .i64 x.Time.To]
structure Tapi_Line where
  Text : (List UInt8)
  Cents : Int
def Tapi_Line.enc (x : Tapi_Line) : List AV := [.str x.Text, .int .i64 x.Cents]
structure Tapi_Charge where
  Key : (List UInt8)
  Vehicle : (List UInt8)
  System : (List UInt8)
  Class : Int
  Time : Int
  Lines : (List Tapi_Line)
  Cents : Int
def Tapi_Charge.enc (x : Tapi_Charge) : List AV := [.str x.Key, .str x.Vehicle, .str x.System, .int .i64 x.Class, .int .i64 x.Time, .lst (fl Tapi_Line.enc x.Lines) x.Lines.length, .int .i64 x.Cents]
structure Tapi_Exclusion where
  ID : (List UInt8)
  Why : Int
def Tapi_Exclusion.enc (x : Tapi_Exclusion) : List AV := [.str x.ID, .int .i64 x.Why]
structure Tapi_Result where
  Passages : (List Tapi_Passage)
  Rejects : (List Tapi_Reject)
  Trips : (List Tapi_Trip)
  Stays : (List Tapi_Stay)
  Charges : (List Tapi_Charge)
  Exclusions : (List Tapi_Exclusion)
def Tapi_Result.enc (x : Tapi_Result) : List AV := [.lst (fl Tapi_Passage.enc x.Passages) x.Passages.length, .lst (fl Tapi_Reject.enc x.Rejects) x.Rejects.length, .lst (fl Tapi_Trip.enc x.Trips) x.Trips.length, .lst (fl Tapi_Stay.enc x.Stays) x.Stays.length, .lst (fl Tapi_Charge.enc x.Charges) x.Charges.length, .lst (fl Tapi_Exclusion.enc x.Exclusions) x.Exclusions.length]
noncomputable def text_Format (n_0 : Int) : Option (List UInt8) :=
  (itoaF n_0).bind fun r1 =>
  some r1
theorem text_Format_0 (n_0 : Int) (r1 : (List UInt8)) (h2 : itoaF n_0 = some r1) : Ret Tryd.prog GT 51 [.int .i64 n_0] (.str r1) [] :=
  Ret.of_view 400 (cs 2 [.ret none [.int .i64 n_0] (.str r1) [], .op none .c]) [] (ps := [((.int .i64 n_0 : AV) = .int .i64 n_0), (Ret Tryd.prog GT 68 [.int .i64 n_0] (.str r1) [])]) (by kernel_rfl) (by kernel_rfl) ⟨rfl, ok1 (itoa_ret n_0 r1 h2)⟩
theorem text_Format_ret (n_0 : Int) (r : (List UInt8)) (h : text_Format n_0 = some r) : Ret Tryd.prog GT 51 [.int .i64 n_0] (.str r) [] := by
  unfold text_Format at h
  obtain ⟨r1, h2, h⟩ := bind_some h
  simp only [Option.some.injEq] at h
  subst h
  exact text_Format_0 n_0 r1 h2
noncomputable def trace_key (x_0 : Tapi_Source) : Option (List UInt8) :=
  if x_0.Device.length + ([46] : List UInt8).length ≤ 9223372036854775807 then
    (text_Format x_0.Seq).bind fun r2 =>
    if (x_0.Device ++ ([46] : List UInt8)).length + r2.length ≤ 9223372036854775807 then
      some ((x_0.Device ++ ([46] : List UInt8)) ++ r2)
    else none
  else none
theorem trace_key_0 (x_0 : Tapi_Source) (h1 : x_0.Device.length + ([46] : List UInt8).length ≤ 9223372036854775807) (r2 : (List UInt8)) (h3 : text_Format x_0.Seq = some r2) (h4 : (x_0.Device ++ ([46] : List UInt8)).length + r2.length ≤ 9223372036854775807) : Ret Tryd.prog GT 21 [.agg (Tapi_Source.enc x_0)] (.str ((x_0.Device ++ ([46] : List UInt8)) ++ r2)) [] :=
  Ret.of_view 400 (cs 4 ((.op none .a) :: (cs 2 [.ret none [.int .i64 x_0.Seq] (.str r2) [], .op none .a, .op none .c]))) [] (ps := [(x_0.Device.length + ([46] : List UInt8).length ≤ 9223372036854775807), ((.int .i64 x_0.Seq : AV) = .int .i64 x_0.Seq), (Ret Tryd.prog GT 51 [.int .i64 x_0.Seq] (.str r2) []), ((x_0.Device ++ ([46] : List UInt8)).length + r2.length ≤ 9223372036854775807)]) (by kernel_rfl) (by kernel_rfl) ⟨h1, rfl, (text_Format_ret x_0.Seq r2 h3), ok1 h4⟩
theorem trace_key_ret (x_0 : Tapi_Source) (r : (List UInt8)) (h : trace_key x_0 = some r) : Ret Tryd.prog GT 21 [.agg (Tapi_Source.enc x_0)] (.str r) [] := by
  unfold trace_key at h
  obtain ⟨h1, h⟩ := guard_some h
  obtain ⟨r2, h3, h⟩ := bind_some h
  obtain ⟨h4, h⟩ := guard_some h
  simp only [Option.some.injEq] at h
  subst h
  exact trace_key_0 x_0 h1 r2 h3 h4
noncomputable def trace_charged_L1_step (r_0 : Tapi_Result) (key_1 : (List UInt8)) : Nat → Option (Nat ⊕ (Int ⊕ Unit)) := fun k8 =>
  if (↑k8 : Int) < (↑r_0.Charges.length : Int) then
    (r_0.Charges[k8]?).bind fun x8 =>
    if x8.Key = key_1 then
      some (Sum.inr (Sum.inl (↑k8 : Int)))
    else
      if InR .i64 ((↑k8 : Int) + 1) then
        some (Sum.inl (k8 + 1))
      else none
  else
    some (Sum.inr (Sum.inr (())))
def trace_charged_L1_H (r_0 : Tapi_Result) (key_1 : (List UInt8)) : Nat → St := fun (s : Nat) => S 19 [(0, .lst (fl Tapi_Charge.enc r_0.Charges) r_0.Charges.length), (1, .fn (.func 59) [] [.ptr 0 0]), (7, .int .i64 (↑r_0.Charges.length : Int)), (8, .int .i64 (↑s : Int))] [{ c := [.str key_1], e := 9, ext := false, fz := 0, pl := true, o := false }]
theorem trace_charged_L1_0 (r_0 : Tapi_Result) (key_1 : (List UInt8)) (k8 : Nat) (c7 : (↑k8 : Int) < (↑r_0.Charges.length : Int)) (x8 : Tapi_Charge) (h9 : r_0.Charges[k8]? = some x8) (c10 : x8.Key = key_1) : Does Tryd.prog GT 1 (bodyAt Tryd.prog 58 [1, 0, 1, 0, 0]) (trace_charged_L1_H r_0 key_1 k8) .ret (S 19 [(4, .int .i64 (↑k8 : Int))] [{ c := [.str key_1], e := 9, ext := false, fz := 0, pl := true, o := false }]) :=
  Does.of_viewM 1 400 ((.op none .a) :: (.br true) :: (cs 5 ((.op none (.i k8)) :: (.op none (.v [.str x8.Key, .str x8.Vehicle, .str x8.System, .int .i64 x8.Class, .int .i64 x8.Time, .lst (fl Tapi_Line.enc x8.Lines) x8.Lines.length, .int .i64 x8.Cents])) :: (cs 6 ((.op none .a) :: (.op none .c) :: (.br true) :: (cs 2 [])))))) [0] (ps := [((decide ((↑k8 : Int) < (↑r_0.Charges.length : Int))) = true), ((↑k8 : Int) = ((k8 : Nat) : Int) ∧ k8 < r_0.Charges.length), ((fl Tapi_Charge.enc r_0.Charges) ≠ []), (sub (fl Tapi_Charge.enc r_0.Charges) (k8 * 7) 7 = [.str x8.Key, .str x8.Vehicle, .str x8.System, .int .i64 x8.Class, .int .i64 x8.Time, .lst (fl Tapi_Line.enc x8.Lines) x8.Lines.length, .int .i64 x8.Cents]), ((x8.Key == key_1) = true)]) (by kernel_rfl) (by kernel_rfl) ⟨(decide_eq_true c7), ⟨rfl, get_lt h9⟩, (fl_ne (f := Tapi_Charge.enc) (z := 6) (fun _ => rfl) h9), (fl_sub0 (f := Tapi_Charge.enc) (z := 7) (j := k8) (fun _ => rfl) h9 rfl), ok1 (beq_t c10)⟩
theorem trace_charged_L1_1 (r_0 : Tapi_Result) (key_1 : (List UInt8)) (k8 : Nat) (c7 : (↑k8 : Int) < (↑r_0.Charges.length : Int)) (x8 : Tapi_Charge) (h9 : r_0.Charges[k8]? = some x8) (c10 : ¬ (x8.Key = key_1)) (h11 : InR .i64 ((↑k8 : Int) + 1)) : Does Tryd.prog GT 1 (bodyAt Tryd.prog 58 [1, 0, 1, 0, 0]) (trace_charged_L1_H r_0 key_1 k8) .normal (S 19 [(0, .lst (fl Tapi_Charge.enc r_0.Charges) r_0.Charges.length), (1, .fn (.func 59) [] [.ptr 0 0]), (7, .int .i64 (↑r_0.Charges.length : Int)), (8, .int .i64 ((↑k8 : Int) + 1))] [{ c := [.str key_1], e := 9, ext := false, fz := 0, pl := true, o := false }]) :=
  Does.of_viewM 1 400 ((.op none .a) :: (.br true) :: (cs 5 ((.op none (.i k8)) :: (.op none (.v [.str x8.Key, .str x8.Vehicle, .str x8.System, .int .i64 x8.Class, .int .i64 x8.Time, .lst (fl Tapi_Line.enc x8.Lines) x8.Lines.length, .int .i64 x8.Cents])) :: (cs 6 [.op none .a, .op none .c, .br false, .op none .w, .op none .c])))) [0] (ps := [((decide ((↑k8 : Int) < (↑r_0.Charges.length : Int))) = true), ((↑k8 : Int) = ((k8 : Nat) : Int) ∧ k8 < r_0.Charges.length), ((fl Tapi_Charge.enc r_0.Charges) ≠ []), (sub (fl Tapi_Charge.enc r_0.Charges) (k8 * 7) 7 = [.str x8.Key, .str x8.Vehicle, .str x8.System, .int .i64 x8.Class, .int .i64 x8.Time, .lst (fl Tapi_Line.enc x8.Lines) x8.Lines.length, .int .i64 x8.Cents]), ((x8.Key == key_1) = false), (IntKind.min .i64 ≤ ((↑k8 : Int) + 1) ∧ ((↑k8 : Int) + 1) ≤ IntKind.max .i64)]) (by kernel_rfl) (by kernel_rfl) ⟨(decide_eq_true c7), ⟨rfl, get_lt h9⟩, (fl_ne (f := Tapi_Charge.enc) (z := 6) (fun _ => rfl) h9), (fl_sub0 (f := Tapi_Charge.enc) (z := 7) (j := k8) (fun _ => rfl) h9 rfl), (beq_f c10), ok1 h11⟩
theorem trace_charged_L1_2 (r_0 : Tapi_Result) (key_1 : (List UInt8)) (k8 : Nat) (c7 : ¬ ((↑k8 : Int) < (↑r_0.Charges.length : Int))) : Does Tryd.prog GT 1 (bodyAt Tryd.prog 58 [1, 0, 1, 0, 0]) (trace_charged_L1_H r_0 key_1 k8) (.exit 0) (S 19 [] [{ c := [.str key_1], e := 9, ext := false, fz := 0, pl := true, o := false }]) :=
  Does.of_viewM 1 400 [.op none .a, .br false] [0] (ps := [((decide ((↑k8 : Int) < (↑r_0.Charges.length : Int))) = false)]) (by kernel_rfl) (by kernel_rfl) (ok1 (decide_eq_false c7))
def trace_charged_L1_X (r_0 : Tapi_Result) (key_1 : (List UInt8)) : (Int ⊕ Unit) → AEx := fun q => match q with | Sum.inl o => .ret | Sum.inr (o) => (.exit 0)
def trace_charged_L1_E (r_0 : Tapi_Result) (key_1 : (List UInt8)) : (Int ⊕ Unit) → St := fun q => match q with | Sum.inl o => S 19 [(4, .int .i64 o)] [{ c := [.str key_1], e := 9, ext := false, fz := 0, pl := true, o := false }] | Sum.inr (o) => S 19 [] [{ c := [.str key_1], e := 9, ext := false, fz := 0, pl := true, o := false }]
theorem trace_charged_L1_does (r_0 : Tapi_Result) (key_1 : (List UInt8)) {s : Nat} {r : Int ⊕ Unit} (h : lp (trace_charged_L1_step r_0 key_1) s = some r) : Does Tryd.prog GT 1 (.loop (bodyAt Tryd.prog 58 [1, 0, 1, 0, 0])) (trace_charged_L1_H r_0 key_1 s) (trace_charged_L1_X r_0 key_1 r) (trace_charged_L1_E r_0 key_1 r) := by
  refine Does.lp (H := trace_charged_L1_H r_0 key_1) (X := trace_charged_L1_X r_0 key_1) (E := trace_charged_L1_E r_0 key_1) (fun s s2 h => ?_) (fun s r h => ?_) h
  · revert h; revert s; intro k8 h
    unfold trace_charged_L1_step at h
    try dsimp only at h
    rcases ite_some h with ⟨c7, h⟩ | ⟨c7, h⟩
    · obtain ⟨x8, h9, h⟩ := bind_some h
      rcases ite_some h with ⟨c10, h⟩ | ⟨c10, h⟩
      · simp at h
      · obtain ⟨h11, h⟩ := guard_some h
        simp only [Option.some.injEq, Sum.inl.injEq] at h
        subst h
        have hq := trace_charged_L1_1 r_0 key_1 k8 c7 x8 h9 c10 h11
        first | exact hq | exact Eq.mp (by simp only [trace_charged_L1_H, List.length_set] <;> rfl) hq
    · simp at h
  · revert h; revert s; intro k8 h
    unfold trace_charged_L1_step at h
    try dsimp only at h
    rcases ite_some h with ⟨c7, h⟩ | ⟨c7, h⟩
    · obtain ⟨x8, h9, h⟩ := bind_some h
      rcases ite_some h with ⟨c10, h⟩ | ⟨c10, h⟩
      · simp only [Option.some.injEq, Sum.inr.injEq] at h
        subst h
        exact ⟨trace_charged_L1_0 r_0 key_1 k8 c7 x8 h9 c10, by intro q; cases q⟩
      · obtain ⟨h11, h⟩ := guard_some h
        simp at h
    · simp only [Option.some.injEq, Sum.inr.injEq] at h
      subst h
      exact ⟨trace_charged_L1_2 r_0 key_1 k8 c7, by intro q; cases q⟩
noncomputable def trace_charged (r_0 : Tapi_Result) (key_1 : (List UInt8)) : Option (Tapi_Charge × Bool) :=
  (lp (trace_charged_L1_step r_0 key_1) (0 : Nat)).bind fun qq => match qq with
  | Sum.inl o1 =>
    if o1 < (0 : Int) then
      some ((⟨([] : List UInt8), ([] : List UInt8), ([] : List UInt8), 0, 0, [], 0⟩ : Tapi_Charge), false)
    else
      if (0 : Int) ≤ o1 then
        (r_0.Charges[(Int.toNat o1)]?).bind fun x14 =>
        some (x14, true)
      else none
  | Sum.inr (o1) =>
    some ((⟨([] : List UInt8), ([] : List UInt8), ([] : List UInt8), 0, 0, [], 0⟩ : Tapi_Charge), false)
def trace_charged_h1  : List CH := (cs 12 [])
def trace_charged_h2 (r_0 : Tapi_Result) (key_1 : (List UInt8)) (o1 : Int) : List CH := ((.fcut 1 .ret [(4, .int .i64 o1)] [{ c := [.str key_1], e := 9, ext := false, fz := 0, pl := true, o := false }] [1] [(0, .lst (fl Tapi_Charge.enc r_0.Charges) r_0.Charges.length), (1, .fn (.func 59) [] [.ptr 0 0]), (7, .int .i64 (↑r_0.Charges.length : Int)), (8, .int .i64 (↑(0 : Nat) : Int))] [{ c := [.str key_1], e := 9, ext := false, fz := 0, pl := true, o := false }]) :: (cs 2 [.op none .a]))
def trace_charged_p3 (r_0 : Tapi_Result) (key_1 : (List UInt8)) : List Prop := [((.lst (fl Tapi_Charge.enc r_0.Charges) r_0.Charges.length : AV) = .lst (fl Tapi_Charge.enc r_0.Charges) r_0.Charges.length), ((.fn (.func 59) [] [.ptr 1 0] : AV) = .fn (.func 59) [] [.ptr 1 0]), ((.int .i64 (↑r_0.Charges.length : Int) : AV) = .int .i64 (↑r_0.Charges.length : Int)), ((.int .i64 0 : AV) = .int .i64 (↑(0 : Nat) : Int)), (({ c := [.str key_1], e := 9, ext := false, fz := 0, pl := true, o := false } : Blk) = renB [1] { c := [.str key_1], e := 9, ext := false, fz := 0, pl := true, o := false })]
theorem trace_charged_p3q (r_0 : Tapi_Result) (key_1 : (List UInt8)) : allOk (trace_charged_p3 r_0 key_1) := ⟨rfl, rfl, rfl, rfl, ok1 rfl⟩
theorem trace_charged_0 (r_0 : Tapi_Result) (key_1 : (List UInt8)) (o1 : Int) (hl1 : lp (trace_charged_L1_step r_0 key_1) (0 : Nat) = some (Sum.inl o1)) (c12 : o1 < (0 : Int)) : Ret Tryd.prog GT 29 [.agg (Tapi_Result.enc r_0), .str key_1] (.tup [.agg [.str [], .str [], .str [], .int .i64 0, .int .i64 0, .nils, .int .i64 0], .bool false]) [] :=
  Ret.of_view 400 ((trace_charged_h1) ++ ((trace_charged_h2 r_0 key_1 o1) ++ ((.br true) :: (cs 3 [])))) [] (ps := ((trace_charged_p3 r_0 key_1) ++ ([(Does Tryd.prog GT 1 (.loop (bodyAt Tryd.prog 58 [1, 0, 1, 0, 0])) (S 19 [(0, .lst (fl Tapi_Charge.enc r_0.Charges) r_0.Charges.length), (1, .fn (.func 59) [] [.ptr 0 0]), (7, .int .i64 (↑r_0.Charges.length : Int)), (8, .int .i64 (↑(0 : Nat) : Int))] [{ c := [.str key_1], e := 9, ext := false, fz := 0, pl := true, o := false }]) .ret (S 19 [(4, .int .i64 o1)] [{ c := [.str key_1], e := 9, ext := false, fz := 0, pl := true, o := false }]))] ++ [((decide (o1 < (0 : Int))) = true)]))) (by kernel_rfl) (by kernel_rfl) (allOk_append.2 ⟨(trace_charged_p3q r_0 key_1), (allOk_append.2 ⟨(ok1 (trace_charged_L1_does r_0 key_1 hl1)), (ok1 (decide_eq_true c12))⟩)⟩)
theorem trace_charged_1 (r_0 : Tapi_Result) (key_1 : (List UInt8)) (o1 : Int) (hl1 : lp (trace_charged_L1_step r_0 key_1) (0 : Nat) = some (Sum.inl o1)) (c12 : ¬ (o1 < (0 : Int))) (h13 : (0 : Int) ≤ o1) (x14 : Tapi_Charge) (h15 : r_0.Charges[(Int.toNat o1)]? = some x14) : Ret Tryd.prog GT 29 [.agg (Tapi_Result.enc r_0), .str key_1] (.tup [.agg (Tapi_Charge.enc x14), .bool true]) [] :=
  Ret.of_view 400 ((trace_charged_h1) ++ ((trace_charged_h2 r_0 key_1 o1) ++ ((.br false) :: (cs 3 ((.op none (.i (Int.toNat o1))) :: (.op none (.v [.str x14.Key, .str x14.Vehicle, .str x14.System, .int .i64 x14.Class, .int .i64 x14.Time, .lst (fl Tapi_Line.enc x14.Lines) x14.Lines.length, .int .i64 x14.Cents])) :: (cs 2 [])))))) [] (ps := ((trace_charged_p3 r_0 key_1) ++ ([(Does Tryd.prog GT 1 (.loop (bodyAt Tryd.prog 58 [1, 0, 1, 0, 0])) (S 19 [(0, .lst (fl Tapi_Charge.enc r_0.Charges) r_0.Charges.length), (1, .fn (.func 59) [] [.ptr 0 0]), (7, .int .i64 (↑r_0.Charges.length : Int)), (8, .int .i64 (↑(0 : Nat) : Int))] [{ c := [.str key_1], e := 9, ext := false, fz := 0, pl := true, o := false }]) .ret (S 19 [(4, .int .i64 o1)] [{ c := [.str key_1], e := 9, ext := false, fz := 0, pl := true, o := false }]))] ++ [((decide (o1 < (0 : Int))) = false), (o1 = (((Int.toNat o1) : Nat) : Int) ∧ (Int.toNat o1) < r_0.Charges.length), ((fl Tapi_Charge.enc r_0.Charges) ≠ []), (sub (fl Tapi_Charge.enc r_0.Charges) ((Int.toNat o1) * 7) 7 = [.str x14.Key, .str x14.Vehicle, .str x14.System, .int .i64 x14.Class, .int .i64 x14.Time, .lst (fl Tapi_Line.enc x14.Lines) x14.Lines.length, .int .i64 x14.Cents])]))) (by kernel_rfl) (by kernel_rfl) (allOk_append.2 ⟨(trace_charged_p3q r_0 key_1), (allOk_append.2 ⟨(ok1 (trace_charged_L1_does r_0 key_1 hl1)), ⟨(decide_eq_false c12), ⟨(Int.toNat_of_nonneg h13).symm, get_lt h15⟩, (fl_ne (f := Tapi_Charge.enc) (z := 6) (fun _ => rfl) h15), ok1 (fl_sub0 (f := Tapi_Charge.enc) (z := 7) (j := (Int.toNat o1)) (fun _ => rfl) h15 rfl)⟩⟩)⟩)
theorem trace_charged_2 (r_0 : Tapi_Result) (key_1 : (List UInt8)) (o1 : Unit) (hl1 : lp (trace_charged_L1_step r_0 key_1) (0 : Nat) = some (Sum.inr (o1))) : Ret Tryd.prog GT 29 [.agg (Tapi_Result.enc r_0), .str key_1] (.tup [.agg [.str [], .str [], .str [], .int .i64 0, .int .i64 0, .nils, .int .i64 0], .bool false]) [] :=
  Ret.of_view 400 ((trace_charged_h1) ++ ((.fcut 1 (.exit 0) [] [{ c := [.str key_1], e := 9, ext := false, fz := 0, pl := true, o := false }] [1] [(0, .lst (fl Tapi_Charge.enc r_0.Charges) r_0.Charges.length), (1, .fn (.func 59) [] [.ptr 0 0]), (7, .int .i64 (↑r_0.Charges.length : Int)), (8, .int .i64 (↑(0 : Nat) : Int))] [{ c := [.str key_1], e := 9, ext := false, fz := 0, pl := true, o := false }]) :: (cs 4 ((.br true) :: (cs 3 []))))) [] (ps := ((trace_charged_p3 r_0 key_1) ++ [(Does Tryd.prog GT 1 (.loop (bodyAt Tryd.prog 58 [1, 0, 1, 0, 0])) (S 19 [(0, .lst (fl Tapi_Charge.enc r_0.Charges) r_0.Charges.length), (1, .fn (.func 59) [] [.ptr 0 0]), (7, .int .i64 (↑r_0.Charges.length : Int)), (8, .int .i64 (↑(0 : Nat) : Int))] [{ c := [.str key_1], e := 9, ext := false, fz := 0, pl := true, o := false }]) (.exit 0) (S 19 [] [{ c := [.str key_1], e := 9, ext := false, fz := 0, pl := true, o := false }])), (true = true)])) (by kernel_rfl) (by kernel_rfl) (allOk_append.2 ⟨(trace_charged_p3q r_0 key_1), ⟨(trace_charged_L1_does r_0 key_1 hl1), ok1 rfl⟩⟩)
theorem trace_charged_ret (r_0 : Tapi_Result) (key_1 : (List UInt8)) (r : (Tapi_Charge × Bool)) (h : trace_charged r_0 key_1 = some r) : Ret Tryd.prog GT 29 [.agg (Tapi_Result.enc r_0), .str key_1] (.tup [.agg (Tapi_Charge.enc r.1), .bool r.2]) [] := by
  unfold trace_charged at h
  obtain ⟨qq, hl1, h⟩ := bind_some h
  rcases qq with o1 | o1
  · dsimp only at h
    rcases ite_some h with ⟨c12, h⟩ | ⟨c12, h⟩
    · simp only [Option.some.injEq] at h
      subst h
      exact Ret.nl 4 (trace_charged_0 r_0 key_1 o1 hl1 c12) rfl
    · obtain ⟨h13, h⟩ := guard_some h
      obtain ⟨x14, h15, h⟩ := bind_some h
      simp only [Option.some.injEq] at h
      subst h
      exact trace_charged_1 r_0 key_1 o1 hl1 c12 h13 x14 h15
  · dsimp only at h
    simp only [Option.some.injEq] at h
    subst h
    exact Ret.nl 4 (trace_charged_2 r_0 key_1 o1 hl1) rfl
noncomputable def trace_passed_L1_step (r_0 : Tapi_Result) (id_1 : (List UInt8)) : Nat → Option (Nat ⊕ (Int ⊕ Unit)) := fun k8 =>
  if (↑k8 : Int) < (↑r_0.Passages.length : Int) then
    (r_0.Passages[k8]?).bind fun x8 =>
    if x8.ID = id_1 then
      some (Sum.inr (Sum.inl (↑k8 : Int)))
    else
      if InR .i64 ((↑k8 : Int) + 1) then
        some (Sum.inl (k8 + 1))
      else none
  else
    some (Sum.inr (Sum.inr (())))
def trace_passed_L1_H (r_0 : Tapi_Result) (id_1 : (List UInt8)) : Nat → St := fun (s : Nat) => S 19 [(0, .lst (fl Tapi_Passage.enc r_0.Passages) r_0.Passages.length), (1, .fn (.func 61) [] [.ptr 0 0]), (7, .int .i64 (↑r_0.Passages.length : Int)), (8, .int .i64 (↑s : Int))] [{ c := [.str id_1], e := 9, ext := false, fz := 0, pl := true, o := false }]
theorem trace_passed_L1_0 (r_0 : Tapi_Result) (id_1 : (List UInt8)) (k8 : Nat) (c7 : (↑k8 : Int) < (↑r_0.Passages.length : Int)) (x8 : Tapi_Passage) (h9 : r_0.Passages[k8]? = some x8) (c10 : x8.ID = id_1) : Does Tryd.prog GT 1 (bodyAt Tryd.prog 60 [1, 0, 1, 0, 0]) (trace_passed_L1_H r_0 id_1 k8) .ret (S 19 [(4, .int .i64 (↑k8 : Int))] [{ c := [.str id_1], e := 9, ext := false, fz := 0, pl := true, o := false }]) :=
  Does.of_viewM 1 400 ((.op none .a) :: (.br true) :: (cs 5 ((.op none (.i k8)) :: (.op none (.v [.str x8.ID, .str x8.Point, .int .i64 x8.Time, .str x8.Tag, .str x8.Plate, .int .i64 x8.Class, .int .i64 x8.Score, .lst (fl Tapi_Source.enc x8.Sources) x8.Sources.length])) :: (cs 6 ((.op none .a) :: (.op none .c) :: (.br true) :: (cs 2 [])))))) [0] (ps := [((decide ((↑k8 : Int) < (↑r_0.Passages.length : Int))) = true), ((↑k8 : Int) = ((k8 : Nat) : Int) ∧ k8 < r_0.Passages.length), ((fl Tapi_Passage.enc r_0.Passages) ≠ []), (sub (fl Tapi_Passage.enc r_0.Passages) (k8 * 8) 8 = [.str x8.ID, .str x8.Point, .int .i64 x8.Time, .str x8.Tag, .str x8.Plate, .int .i64 x8.Class, .int .i64 x8.Score, .lst (fl Tapi_Source.enc x8.Sources) x8.Sources.length]), ((x8.ID == id_1) = true)]) (by kernel_rfl) (by kernel_rfl) ⟨(decide_eq_true c7), ⟨rfl, get_lt h9⟩, (fl_ne (f := Tapi_Passage.enc) (z := 7) (fun _ => rfl) h9), (fl_sub0 (f := Tapi_Passage.enc) (z := 8) (j := k8) (fun _ => rfl) h9 rfl), ok1 (beq_t c10)⟩
theorem trace_passed_L1_1 (r_0 : Tapi_Result) (id_1 : (List UInt8)) (k8 : Nat) (c7 : (↑k8 : Int) < (↑r_0.Passages.length : Int)) (x8 : Tapi_Passage) (h9 : r_0.Passages[k8]? = some x8) (c10 : ¬ (x8.ID = id_1)) (h11 : InR .i64 ((↑k8 : Int) + 1)) : Does Tryd.prog GT 1 (bodyAt Tryd.prog 60 [1, 0, 1, 0, 0]) (trace_passed_L1_H r_0 id_1 k8) .normal (S 19 [(0, .lst (fl Tapi_Passage.enc r_0.Passages) r_0.Passages.length), (1, .fn (.func 61) [] [.ptr 0 0]), (7, .int .i64 (↑r_0.Passages.length : Int)), (8, .int .i64 ((↑k8 : Int) + 1))] [{ c := [.str id_1], e := 9, ext := false, fz := 0, pl := true, o := false }]) :=
  Does.of_viewM 1 400 ((.op none .a) :: (.br true) :: (cs 5 ((.op none (.i k8)) :: (.op none (.v [.str x8.ID, .str x8.Point, .int .i64 x8.Time, .str x8.Tag, .str x8.Plate, .int .i64 x8.Class, .int .i64 x8.Score, .lst (fl Tapi_Source.enc x8.Sources) x8.Sources.length])) :: (cs 6 [.op none .a, .op none .c, .br false, .op none .w, .op none .c])))) [0] (ps := [((decide ((↑k8 : Int) < (↑r_0.Passages.length : Int))) = true), ((↑k8 : Int) = ((k8 : Nat) : Int) ∧ k8 < r_0.Passages.length), ((fl Tapi_Passage.enc r_0.Passages) ≠ []), (sub (fl Tapi_Passage.enc r_0.Passages) (k8 * 8) 8 = [.str x8.ID, .str x8.Point, .int .i64 x8.Time, .str x8.Tag, .str x8.Plate, .int .i64 x8.Class, .int .i64 x8.Score, .lst (fl Tapi_Source.enc x8.Sources) x8.Sources.length]), ((x8.ID == id_1) = false), (IntKind.min .i64 ≤ ((↑k8 : Int) + 1) ∧ ((↑k8 : Int) + 1) ≤ IntKind.max .i64)]) (by kernel_rfl) (by kernel_rfl) ⟨(decide_eq_true c7), ⟨rfl, get_lt h9⟩, (fl_ne (f := Tapi_Passage.enc) (z := 7) (fun _ => rfl) h9), (fl_sub0 (f := Tapi_Passage.enc) (z := 8) (j := k8) (fun _ => rfl) h9 rfl), (beq_f c10), ok1 h11⟩
theorem trace_passed_L1_2 (r_0 : Tapi_Result) (id_1 : (List UInt8)) (k8 : Nat) (c7 : ¬ ((↑k8 : Int) < (↑r_0.Passages.length : Int))) : Does Tryd.prog GT 1 (bodyAt Tryd.prog 60 [1, 0, 1, 0, 0]) (trace_passed_L1_H r_0 id_1 k8) (.exit 0) (S 19 [] [{ c := [.str id_1], e := 9, ext := false, fz := 0, pl := true, o := false }]) :=
  Does.of_viewM 1 400 [.op none .a, .br false] [0] (ps := [((decide ((↑k8 : Int) < (↑r_0.Passages.length : Int))) = false)]) (by kernel_rfl) (by kernel_rfl) (ok1 (decide_eq_false c7))
def trace_passed_L1_X (r_0 : Tapi_Result) (id_1 : (List UInt8)) : (Int ⊕ Unit) → AEx := fun q => match q with | Sum.inl o => .ret | Sum.inr (o) => (.exit 0)
def trace_passed_L1_E (r_0 : Tapi_Result) (id_1 : (List UInt8)) : (Int ⊕ Unit) → St := fun q => match q with | Sum.inl o => S 19 [(4, .int .i64 o)] [{ c := [.str id_1], e := 9, ext := false, fz := 0, pl := true, o := false }] | Sum.inr (o) => S 19 [] [{ c := [.str id_1], e := 9, ext := false, fz := 0, pl := true, o := false }]
theorem trace_passed_L1_does (r_0 : Tapi_Result) (id_1 : (List UInt8)) {s : Nat} {r : Int ⊕ Unit} (h : lp (trace_passed_L1_step r_0 id_1) s = some r) : Does Tryd.prog GT 1 (.loop (bodyAt Tryd.prog 60 [1, 0, 1, 0, 0])) (trace_passed_L1_H r_0 id_1 s) (trace_passed_L1_X r_0 id_1 r) (trace_passed_L1_E r_0 id_1 r) := by
  refine Does.lp (H := trace_passed_L1_H r_0 id_1) (X := trace_passed_L1_X r_0 id_1) (E := trace_passed_L1_E r_0 id_1) (fun s s2 h => ?_) (fun s r h => ?_) h
  · revert h; revert s; intro k8 h
    unfold trace_passed_L1_step at h
    try dsimp only at h
    rcases ite_some h with ⟨c7, h⟩ | ⟨c7, h⟩
    · obtain ⟨x8, h9, h⟩ := bind_some h
      rcases ite_some h with ⟨c10, h⟩ | ⟨c10, h⟩
      · simp at h
      · obtain ⟨h11, h⟩ := guard_some h
        simp only [Option.some.injEq, Sum.inl.injEq] at h
        subst h
        have hq := trace_passed_L1_1 r_0 id_1 k8 c7 x8 h9 c10 h11
        first | exact hq | exact Eq.mp (by simp only [trace_passed_L1_H, List.length_set] <;> rfl) hq
    · simp at h
  · revert h; revert s; intro k8 h
    unfold trace_passed_L1_step at h
    try dsimp only at h
    rcases ite_some h with ⟨c7, h⟩ | ⟨c7, h⟩
    · obtain ⟨x8, h9, h⟩ := bind_some h
      rcases ite_some h with ⟨c10, h⟩ | ⟨c10, h⟩
      · simp only [Option.some.injEq, Sum.inr.injEq] at h
        subst h
        exact ⟨trace_passed_L1_0 r_0 id_1 k8 c7 x8 h9 c10, by intro q; cases q⟩
      · obtain ⟨h11, h⟩ := guard_some h
        simp at h
    · simp only [Option.some.injEq, Sum.inr.injEq] at h
      subst h
      exact ⟨trace_passed_L1_2 r_0 id_1 k8 c7, by intro q; cases q⟩
noncomputable def trace_passed (r_0 : Tapi_Result) (id_1 : (List UInt8)) : Option (Tapi_Passage × Bool) :=
  (lp (trace_passed_L1_step r_0 id_1) (0 : Nat)).bind fun qq => match qq with
  | Sum.inl o1 =>
    if o1 < (0 : Int) then
      some ((⟨([] : List UInt8), ([] : List UInt8), 0, ([] : List UInt8), ([] : List UInt8), 0, 0, []⟩ : Tapi_Passage), false)
    else
      if (0 : Int) ≤ o1 then
        (r_0.Passages[(Int.toNat o1)]?).bind fun x14 =>
        some (x14, true)
      else none
  | Sum.inr (o1) =>
    some ((⟨([] : List UInt8), ([] : List UInt8), 0, ([] : List UInt8), ([] : List UInt8), 0, 0, []⟩ : Tapi_Passage), false)
def trace_passed_h1  : List CH := (cs 12 [])
def trace_passed_h2 (r_0 : Tapi_Result) (id_1 : (List UInt8)) (o1 : Int) : List CH := ((.fcut 1 .ret [(4, .int .i64 o1)] [{ c := [.str id_1], e := 9, ext := false, fz := 0, pl := true, o := false }] [1] [(0, .lst (fl Tapi_Passage.enc r_0.Passages) r_0.Passages.length), (1, .fn (.func 61) [] [.ptr 0 0]), (7, .int .i64 (↑r_0.Passages.length : Int)), (8, .int .i64 (↑(0 : Nat) : Int))] [{ c := [.str id_1], e := 9, ext := false, fz := 0, pl := true, o := false }]) :: (cs 2 [.op none .a]))
def trace_passed_p3 (r_0 : Tapi_Result) (id_1 : (List UInt8)) : List Prop := [((.lst (fl Tapi_Passage.enc r_0.Passages) r_0.Passages.length : AV) = .lst (fl Tapi_Passage.enc r_0.Passages) r_0.Passages.length), ((.fn (.func 61) [] [.ptr 1 0] : AV) = .fn (.func 61) [] [.ptr 1 0]), ((.int .i64 (↑r_0.Passages.length : Int) : AV) = .int .i64 (↑r_0.Passages.length : Int)), ((.int .i64 0 : AV) = .int .i64 (↑(0 : Nat) : Int)), (({ c := [.str id_1], e := 9, ext := false, fz := 0, pl := true, o := false } : Blk) = renB [1] { c := [.str id_1], e := 9, ext := false, fz := 0, pl := true, o := false })]
theorem trace_passed_p3q (r_0 : Tapi_Result) (id_1 : (List UInt8)) : allOk (trace_passed_p3 r_0 id_1) := ⟨rfl, rfl, rfl, rfl, ok1 rfl⟩
theorem trace_passed_0 (r_0 : Tapi_Result) (id_1 : (List UInt8)) (o1 : Int) (hl1 : lp (trace_passed_L1_step r_0 id_1) (0 : Nat) = some (Sum.inl o1)) (c12 : o1 < (0 : Int)) : Ret Tryd.prog GT 32 [.agg (Tapi_Result.enc r_0), .str id_1] (.tup [.agg [.str [], .str [], .int .i64 0, .str [], .str [], .int .i64 0, .int .i64 0, .nils], .bool false]) [] :=
  Ret.of_view 400 ((trace_passed_h1) ++ ((trace_passed_h2 r_0 id_1 o1) ++ ((.br true) :: (cs 3 [])))) [] (ps := ((trace_passed_p3 r_0 id_1) ++ ([(Does Tryd.prog GT 1 (.loop (bodyAt Tryd.prog 60 [1, 0, 1, 0, 0])) (S 19 [(0, .lst (fl Tapi_Passage.enc r_0.Passages) r_0.Passages.length), (1, .fn (.func 61) [] [.ptr 0 0]), (7, .int .i64 (↑r_0.Passages.length : Int)), (8, .int .i64 (↑(0 : Nat) : Int))] [{ c := [.str id_1], e := 9, ext := false, fz := 0, pl := true, o := false }]) .ret (S 19 [(4, .int .i64 o1)] [{ c := [.str id_1], e := 9, ext := false, fz := 0, pl := true, o := false }]))] ++ [((decide (o1 < (0 : Int))) = true)]))) (by kernel_rfl) (by kernel_rfl) (allOk_append.2 ⟨(trace_passed_p3q r_0 id_1), (allOk_append.2 ⟨(ok1 (trace_passed_L1_does r_0 id_1 hl1)), (ok1 (decide_eq_true c12))⟩)⟩)
theorem trace_passed_1 (r_0 : Tapi_Result) (id_1 : (List UInt8)) (o1 : Int) (hl1 : lp (trace_passed_L1_step r_0 id_1) (0 : Nat) = some (Sum.inl o1)) (c12 : ¬ (o1 < (0 : Int))) (h13 : (0 : Int) ≤ o1) (x14 : Tapi_Passage) (h15 : r_0.Passages[(Int.toNat o1)]? = some x14) : Ret Tryd.prog GT 32 [.agg (Tapi_Result.enc r_0), .str id_1] (.tup [.agg (Tapi_Passage.enc x14), .bool true]) [] :=
  Ret.of_view 400 ((trace_passed_h1) ++ ((trace_passed_h2 r_0 id_1 o1) ++ ((.br false) :: (cs 3 ((.op none (.i (Int.toNat o1))) :: (.op none (.v [.str x14.ID, .str x14.Point, .int .i64 x14.Time, .str x14.Tag, .str x14.Plate, .int .i64 x14.Class, .int .i64 x14.Score, .lst (fl Tapi_Source.enc x14.Sources) x14.Sources.length])) :: (cs 2 [])))))) [] (ps := ((trace_passed_p3 r_0 id_1) ++ ([(Does Tryd.prog GT 1 (.loop (bodyAt Tryd.prog 60 [1, 0, 1, 0, 0])) (S 19 [(0, .lst (fl Tapi_Passage.enc r_0.Passages) r_0.Passages.length), (1, .fn (.func 61) [] [.ptr 0 0]), (7, .int .i64 (↑r_0.Passages.length : Int)), (8, .int .i64 (↑(0 : Nat) : Int))] [{ c := [.str id_1], e := 9, ext := false, fz := 0, pl := true, o := false }]) .ret (S 19 [(4, .int .i64 o1)] [{ c := [.str id_1], e := 9, ext := false, fz := 0, pl := true, o := false }]))] ++ [((decide (o1 < (0 : Int))) = false), (o1 = (((Int.toNat o1) : Nat) : Int) ∧ (Int.toNat o1) < r_0.Passages.length), ((fl Tapi_Passage.enc r_0.Passages) ≠ []), (sub (fl Tapi_Passage.enc r_0.Passages) ((Int.toNat o1) * 8) 8 = [.str x14.ID, .str x14.Point, .int .i64 x14.Time, .str x14.Tag, .str x14.Plate, .int .i64 x14.Class, .int .i64 x14.Score, .lst (fl Tapi_Source.enc x14.Sources) x14.Sources.length])]))) (by kernel_rfl) (by kernel_rfl) (allOk_append.2 ⟨(trace_passed_p3q r_0 id_1), (allOk_append.2 ⟨(ok1 (trace_passed_L1_does r_0 id_1 hl1)), ⟨(decide_eq_false c12), ⟨(Int.toNat_of_nonneg h13).symm, get_lt h15⟩, (fl_ne (f := Tapi_Passage.enc) (z := 7) (fun _ => rfl) h15), ok1 (fl_sub0 (f := Tapi_Passage.enc) (z := 8) (j := (Int.toNat o1)) (fun _ => rfl) h15 rfl)⟩⟩)⟩)
theorem trace_passed_2 (r_0 : Tapi_Result) (id_1 : (List UInt8)) (o1 : Unit) (hl1 : lp (trace_passed_L1_step r_0 id_1) (0 : Nat) = some (Sum.inr (o1))) : Ret Tryd.prog GT 32 [.agg (Tapi_Result.enc r_0), .str id_1] (.tup [.agg [.str [], .str [], .int .i64 0, .str [], .str [], .int .i64 0, .int .i64 0, .nils], .bool false]) [] :=
  Ret.of_view 400 ((trace_passed_h1) ++ ((.fcut 1 (.exit 0) [] [{ c := [.str id_1], e := 9, ext := false, fz := 0, pl := true, o := false }] [1] [(0, .lst (fl Tapi_Passage.enc r_0.Passages) r_0.Passages.length), (1, .fn (.func 61) [] [.ptr 0 0]), (7, .int .i64 (↑r_0.Passages.length : Int)), (8, .int .i64 (↑(0 : Nat) : Int))] [{ c := [.str id_1], e := 9, ext := false, fz := 0, pl := true, o := false }]) :: (cs 4 ((.br true) :: (cs 3 []))))) [] (ps := ((trace_passed_p3 r_0 id_1) ++ [(Does Tryd.prog GT 1 (.loop (bodyAt Tryd.prog 60 [1, 0, 1, 0, 0])) (S 19 [(0, .lst (fl Tapi_Passage.enc r_0.Passages) r_0.Passages.length), (1, .fn (.func 61) [] [.ptr 0 0]), (7, .int .i64 (↑r_0.Passages.length : Int)), (8, .int .i64 (↑(0 : Nat) : Int))] [{ c := [.str id_1], e := 9, ext := false, fz := 0, pl := true, o := false }]) (.exit 0) (S 19 [] [{ c := [.str id_1], e := 9, ext := false, fz := 0, pl := true, o := false }])), (true = true)])) (by kernel_rfl) (by kernel_rfl) (allOk_append.2 ⟨(trace_passed_p3q r_0 id_1), ⟨(trace_passed_L1_does r_0 id_1 hl1), ok1 rfl⟩⟩)
theorem trace_passed_ret (r_0 : Tapi_Result) (id_1 : (List UInt8)) (r : (Tapi_Passage × Bool)) (h : trace_passed r_0 id_1 = some r) : Ret Tryd.prog GT 32 [.agg (Tapi_Result.enc r_0), .str id_1] (.tup [.agg (Tapi_Passage.enc r.1), .bool r.2]) [] := by
  unfold trace_passed at h
  obtain ⟨qq, hl1, h⟩ := bind_some h
  rcases qq with o1 | o1
  · dsimp only at h
    rcases ite_some h with ⟨c12, h⟩ | ⟨c12, h⟩
    · simp only [Option.some.injEq] at h
      subst h
      exact Ret.nl 4 (trace_passed_0 r_0 id_1 o1 hl1 c12) rfl
    · obtain ⟨h13, h⟩ := guard_some h
      obtain ⟨x14, h15, h⟩ := bind_some h
      simp only [Option.some.injEq] at h
      subst h
      exact trace_passed_1 r_0 id_1 o1 hl1 c12 h13 x14 h15
  · dsimp only at h
    simp only [Option.some.injEq] at h
    subst h
    exact Ret.nl 4 (trace_passed_2 r_0 id_1 o1 hl1) rfl
end Go.Proofs.YtalobodhbbkgdabDoor.Av
