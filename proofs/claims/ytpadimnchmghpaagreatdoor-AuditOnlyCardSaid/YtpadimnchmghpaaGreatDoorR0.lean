import Derived.Test.YtpadimnchmghpaaGreatDoorAvZ
import Derived.Test.YtpadimnchmghpaaGreatDoorProg
import Derived.Tactics
import Derived.Test.YtpadimnchmghpaaGreatDoorN0
import Derived.Test.YtpadimnchmghpaaGreatDoorAvSh
set_option linter.unusedVariables false
set_option linter.unusedSimpArgs false
set_option maxHeartbeats 4000000
namespace Go.Proofs.YtpadimnchmghpaaGreatDoor.Av
open Go Go.Proofs
noncomputable def tollwayref02_PutInt_L9_step  : (Int × (List UInt8)) → Option ((Int × (List UInt8)) ⊕ (Int × (List UInt8)))
  | (v6, b0) =>
    if v6 ≥ (128 : Int) then
      if InR .u8 (Int.tmod v6 128) then
        if InR .u8 ((Int.tmod v6 128) + 128) then
          if b0.length + 1 ≤ 4294967296 then
            if InR .u64 (Int.tdiv v6 128) then
              some (Sum.inl ((Int.tdiv v6 128), (b0 ++ [(UInt8.ofNat (Int.toNat ((Int.tmod v6 128) + 128)))])))
            else none
          else none
        else none
      else none
    else
      some (Sum.inr (v6, b0))
noncomputable def tollwayref08_Hash_L1_step (b_0 : (List UInt8)) : (Int × Nat) → Option ((Int × Nat) ⊕ Int)
  | (v3, k4) =>
    if (↑k4 : Int) < (↑b_0.length : Int) then
      (b_0[k4]?).bind fun x10 =>
      if InR .u64 ((x10.toNat : Int)) then
        (some (IntKind.wrap .u64 ((BitVec.ofInt (IntKind.bits .u64) v3 ^^^ BitVec.ofInt (IntKind.bits .u64) (x10.toNat : Int)).toNat : Int))).bind fun y13 =>
        if InR .i64 ((↑k4 : Int) + 1) then
          some (Sum.inl ((IntKind.wrap .u64 (y13 * 1099511628211)), (k4 + 1)))
        else none
      else none
    else
      some (Sum.inr v3)
def tollwayref08_Hash_L1_H (b_0 : (List UInt8)) : (Int × Nat) → St := fun (s : (Int × Nat)) => S 20 [(0, .lst (u8s b_0) b_0.length), (3, .int .u64 s.1), (4, .int .i64 (↑s.2 : Int))] []
theorem tollwayref08_Hash_L1_0 (b_0 : (List UInt8)) (v3 : Int) (k4 : Nat) (c9 : (↑k4 : Int) < (↑b_0.length : Int)) (x10 : UInt8) (h11 : b_0[k4]? = some x10) (h12 : InR .u64 ((x10.toNat : Int))) (y13 : Int) (h14 : some (IntKind.wrap .u64 ((BitVec.ofInt (IntKind.bits .u64) v3 ^^^ BitVec.ofInt (IntKind.bits .u64) (x10.toNat : Int)).toNat : Int)) = some y13) (h15 : InR .i64 ((↑k4 : Int) + 1)) : Does Tryz.prog G0 0 (bodyAt Tryz.prog 24 [1, 1, 0, 1, 0, 0]) (tollwayref08_Hash_L1_H b_0 (v3, k4)) .normal (S 20 [(0, .lst (u8s b_0) b_0.length), (3, .int .u64 (IntKind.wrap .u64 (y13 * 1099511628211))), (4, .int .i64 ((↑k4 : Int) + 1))] []) :=
  Does.of_viewM 0 400 (cs 3 ((.op none .a) :: (.br true) :: (cs 3 ((.op none (.i k4)) :: (.op none (.v [.int .u8 (x10.toNat : Int)])) :: (.op none .w) :: (.op none .a) :: (.tr (.eqt (.t 17) (.int .u64 y13))) :: (.op none .a) :: (cs 2 [.op none .w, .op none .c]))))) [] (ps := [((decide ((↑k4 : Int) < (↑b_0.length : Int))) = true), ((↑k4 : Int) = ((k4 : Nat) : Int) ∧ k4 < b_0.length), ((u8s b_0) ≠ []), (sub (u8s b_0) k4 1 = [.int .u8 (x10.toNat : Int)]), (IntKind.min .u64 ≤ (x10.toNat : Int) ∧ (x10.toNat : Int) ≤ IntKind.max .u64), ((.int .u64 (IntKind.wrap .u64 ((BitVec.ofInt (IntKind.bits .u64) v3 ^^^ BitVec.ofInt (IntKind.bits .u64) (x10.toNat : Int)).toNat : Int)) : AV) = .int .u64 y13), (IntKind.min .i64 ≤ ((↑k4 : Int) + 1) ∧ ((↑k4 : Int) + 1) ≤ IntKind.max .i64)]) (by kernel_rfl) (by kernel_rfl) ⟨(decide_eq_true c9), ⟨rfl, get_lt h11⟩, (u8s_ne h11), (u8s_sub1 h11), h12, (congrArg _ (Option.some.inj h14)), ok1 h15⟩
theorem tollwayref08_Hash_L1_1 (b_0 : (List UInt8)) (v3 : Int) (k4 : Nat) (c9 : ¬ ((↑k4 : Int) < (↑b_0.length : Int))) : Does Tryz.prog G0 0 (bodyAt Tryz.prog 24 [1, 1, 0, 1, 0, 0]) (tollwayref08_Hash_L1_H b_0 (v3, k4)) (.exit 0) (S 20 [(3, .int .u64 v3)] []) :=
  Does.of_viewM 0 400 (cs 3 [.op none .a, .br false]) [] (ps := [((decide ((↑k4 : Int) < (↑b_0.length : Int))) = false)]) (by kernel_rfl) (by kernel_rfl) (ok1 (decide_eq_false c9))
def tollwayref08_Hash_L1_X (b_0 : (List UInt8)) : Int → AEx := fun o => (.exit 0)
def tollwayref08_Hash_L1_E (b_0 : (List UInt8)) : Int → St := fun o => S 20 [(3, .int .u64 o)] []
theorem tollwayref08_Hash_L1_does (b_0 : (List UInt8)) {s : (Int × Nat)} {r : Int} (h : lp (tollwayref08_Hash_L1_step b_0) s = some r) : Does Tryz.prog G0 0 (.loop (bodyAt Tryz.prog 24 [1, 1, 0, 1, 0, 0])) (tollwayref08_Hash_L1_H b_0 s) (tollwayref08_Hash_L1_X b_0 r) (tollwayref08_Hash_L1_E b_0 r) := by
  refine Does.lp (H := tollwayref08_Hash_L1_H b_0) (X := tollwayref08_Hash_L1_X b_0) (E := tollwayref08_Hash_L1_E b_0) (fun s s2 h => ?_) (fun s r h => ?_) h
  · obtain ⟨v3, k4⟩ := s
    unfold tollwayref08_Hash_L1_step at h
    try dsimp only at h
    rcases ite_some h with ⟨c9, h⟩ | ⟨c9, h⟩
    · obtain ⟨x10, h11, h⟩ := bind_some h
      obtain ⟨h12, h⟩ := guard_some h
      obtain ⟨y13, h14, h⟩ := bind_some h
      obtain ⟨h15, h⟩ := guard_some h
      simp only [Option.some.injEq, Sum.inl.injEq] at h
      subst h
      have hq := tollwayref08_Hash_L1_0 b_0 v3 k4 c9 x10 h11 h12 y13 h14 h15
      first | exact hq | exact Eq.mp (by simp only [tollwayref08_Hash_L1_H, List.length_set] <;> rfl) hq
    · simp at h
  · obtain ⟨v3, k4⟩ := s
    unfold tollwayref08_Hash_L1_step at h
    try dsimp only at h
    rcases ite_some h with ⟨c9, h⟩ | ⟨c9, h⟩
    · obtain ⟨x10, h11, h⟩ := bind_some h
      obtain ⟨h12, h⟩ := guard_some h
      obtain ⟨y13, h14, h⟩ := bind_some h
      obtain ⟨h15, h⟩ := guard_some h
      simp at h
    · simp only [Option.some.injEq, Sum.inr.injEq] at h
      subst h
      exact ⟨tollwayref08_Hash_L1_1 b_0 v3 k4 c9, by intro q; cases q⟩
noncomputable def tollwayref08_Hash (b_0 : (List UInt8)) : Option Int :=
  (lp (tollwayref08_Hash_L1_step b_0) ((14695981039346656037 : Int), (0 : Nat))).bind fun o1 =>
  some o1
theorem tollwayref08_Hash_0 (b_0 : (List UInt8)) (o1 : Int) (hl1 : lp (tollwayref08_Hash_L1_step b_0) ((14695981039346656037 : Int), (0 : Nat)) = some o1) : Ret Tryz.prog G0 24 [.lst (u8s b_0) b_0.length] (.int .u64 o1) [] :=
  Ret.of_view 400 (cs 3 ((.fcut 0 (.exit 0) [(3, .int .u64 o1)] [] [] [(0, .lst (u8s b_0) b_0.length), (3, .int .u64 (14695981039346656037 : Int)), (4, .int .i64 (↑(0 : Nat) : Int))] []) :: (cs 2 []))) [] (ps := [((.lst (u8s b_0) b_0.length : AV) = .lst (u8s b_0) b_0.length), ((.int .u64 14695981039346656037 : AV) = .int .u64 (14695981039346656037 : Int)), ((.int .i64 0 : AV) = .int .i64 (↑(0 : Nat) : Int)), (Does Tryz.prog G0 0 (.loop (bodyAt Tryz.prog 24 [1, 1, 0, 1, 0, 0])) (S 20 [(0, .lst (u8s b_0) b_0.length), (3, .int .u64 (14695981039346656037 : Int)), (4, .int .i64 (↑(0 : Nat) : Int))] []) (.exit 0) (S 20 [(3, .int .u64 o1)] []))]) (by kernel_rfl) (by kernel_rfl) ⟨rfl, rfl, rfl, ok1 (tollwayref08_Hash_L1_does b_0 (s := ((14695981039346656037 : Int), (0 : Nat))) (r := o1) hl1)⟩
theorem tollwayref08_Hash_ret (b_0 : (List UInt8)) (r : Int) (h : tollwayref08_Hash b_0 = some r) : Ret Tryz.prog G0 24 [.lst (u8s b_0) b_0.length] (.int .u64 r) [] := by
  unfold tollwayref08_Hash at h
  obtain ⟨o1, hl1, h⟩ := bind_some h
  simp only [Option.some.injEq] at h
  subst h
  exact tollwayref08_Hash_0 b_0 o1 hl1
noncomputable def tollwayref50_Of_L1_step (l_0 : (List Tapi_Charge)) (key_1 : (List UInt8)) : Nat → Option (Nat ⊕ (((List UInt8) × (List UInt8) × (List UInt8) × Int × Int × (List Tapi_Line) × Int) ⊕ Unit)) := fun k6 =>
  if (↑k6 : Int) < (↑l_0.length : Int) then
    (l_0[k6]?).bind fun x8 =>
    if x8.Key = key_1 then
      some (Sum.inr (Sum.inl (x8.Key, x8.Vehicle, x8.System, x8.Class, x8.Time, x8.Lines, x8.Cents)))
    else
      if InR .i64 ((↑k6 : Int) + 1) then
        some (Sum.inl (k6 + 1))
      else none
  else
    some (Sum.inr (Sum.inr (())))
def tollwayref50_Of_L1_H (l_0 : (List Tapi_Charge)) (key_1 : (List UInt8)) : Nat → St := fun (s : Nat) => S 25 [(0, .lst (fl Tapi_Charge.enc l_0) l_0.length), (1, .str key_1), (4, .ptr 0 0), (6, .int .i64 (↑s : Int))] [(bT [.str [], .str [], .str [], .int .i64 0, .int .i64 0, .nils, .int .i64 0] 35)]
theorem tollwayref50_Of_L1_0 (l_0 : (List Tapi_Charge)) (key_1 : (List UInt8)) (k6 : Nat) (c7 : (↑k6 : Int) < (↑l_0.length : Int)) (x8 : Tapi_Charge) (h9 : l_0[k6]? = some x8) (c10 : x8.Key = key_1) : Does Tryz.prog G0 1 (bodyAt Tryz.prog 22 [1, 0, 1, 0, 0]) (tollwayref50_Of_L1_H l_0 key_1 k6) .ret (S 25 [(4, .ptr 0 0), (5, .bool true)] [(bT (Tapi_Charge.enc x8) 35)]) :=
  Does.of_viewM 1 400 (cs 3 ((.op none .a) :: (.br true) :: (cs 2 ((.op none (.i k6)) :: (.op none .c) :: (.op none (.v [.str x8.Key])) :: (.op none .c) :: (.op none .a) :: (.br true) :: (cs 2 ((.op none (.i k6)) :: (.op none (.v [.str x8.Key, .str x8.Vehicle, .str x8.System, .int .i64 x8.Class, .int .i64 x8.Time, .lst (fl Tapi_Line.enc x8.Lines) x8.Lines.length, .int .i64 x8.Cents])) :: (cs 2 []))))))) [0] (ps := [((decide ((↑k6 : Int) < (↑l_0.length : Int))) = true), ((↑k6 : Int) = ((k6 : Nat) : Int) ∧ k6 < l_0.length), ((fl Tapi_Charge.enc l_0) ≠ []), (sub (fl Tapi_Charge.enc l_0) (k6 * 7) 1 = [.str x8.Key]), ((x8.Key == key_1) = true), ((↑k6 : Int) = ((k6 : Nat) : Int) ∧ k6 < l_0.length), ((fl Tapi_Charge.enc l_0) ≠ []), (sub (fl Tapi_Charge.enc l_0) (k6 * 7) 7 = [.str x8.Key, .str x8.Vehicle, .str x8.System, .int .i64 x8.Class, .int .i64 x8.Time, .lst (fl Tapi_Line.enc x8.Lines) x8.Lines.length, .int .i64 x8.Cents])]) (by kernel_rfl) (by kernel_rfl) ⟨(decide_eq_true c7), ⟨rfl, get_lt h9⟩, (fl_ne (f := Tapi_Charge.enc) (z := 6) (fun _ => rfl) h9), (fl_sub (f := Tapi_Charge.enc) (z := 7) (j := k6) (a := 0) (n := 1) (fun _ => rfl) h9 (by decide) rfl), (beq_t c10), ⟨rfl, get_lt h9⟩, (fl_ne (f := Tapi_Charge.enc) (z := 6) (fun _ => rfl) h9), ok1 (fl_sub0 (f := Tapi_Charge.enc) (z := 7) (j := k6) (fun _ => rfl) h9 rfl)⟩
theorem tollwayref50_Of_L1_1 (l_0 : (List Tapi_Charge)) (key_1 : (List UInt8)) (k6 : Nat) (c7 : (↑k6 : Int) < (↑l_0.length : Int)) (x8 : Tapi_Charge) (h9 : l_0[k6]? = some x8) (c10 : ¬ (x8.Key = key_1)) (h11 : InR .i64 ((↑k6 : Int) + 1)) : Does Tryz.prog G0 1 (bodyAt Tryz.prog 22 [1, 0, 1, 0, 0]) (tollwayref50_Of_L1_H l_0 key_1 k6) .normal (S 25 [(0, .lst (fl Tapi_Charge.enc l_0) l_0.length), (1, .str key_1), (4, .ptr 0 0), (6, .int .i64 ((↑k6 : Int) + 1))] [(bT [.str [], .str [], .str [], .int .i64 0, .int .i64 0, .nils, .int .i64 0] 35)]) :=
  Does.of_viewM 1 400 (cs 3 ((.op none .a) :: (.br true) :: (cs 2 [.op none (.i k6), .op none .c, .op none (.v [.str x8.Key]), .op none .c, .op none .a, .br false, .op none .c, .op none .w, .op none .c]))) [0] (ps := [((decide ((↑k6 : Int) < (↑l_0.length : Int))) = true), ((↑k6 : Int) = ((k6 : Nat) : Int) ∧ k6 < l_0.length), ((fl Tapi_Charge.enc l_0) ≠ []), (sub (fl Tapi_Charge.enc l_0) (k6 * 7) 1 = [.str x8.Key]), ((x8.Key == key_1) = false), (IntKind.min .i64 ≤ ((↑k6 : Int) + 1) ∧ ((↑k6 : Int) + 1) ≤ IntKind.max .i64)]) (by kernel_rfl) (by kernel_rfl) ⟨(decide_eq_true c7), ⟨rfl, get_lt h9⟩, (fl_ne (f := Tapi_Charge.enc) (z := 6) (fun _ => rfl) h9), (fl_sub (f := Tapi_Charge.enc) (z := 7) (j := k6) (a := 0) (n := 1) (fun _ => rfl) h9 (by decide) rfl), (beq_f c10), ok1 h11⟩
theorem tollwayref50_Of_L1_2 (l_0 : (List Tapi_Charge)) (key_1 : (List UInt8)) (k6 : Nat) (c7 : ¬ ((↑k6 : Int) < (↑l_0.length : Int))) : Does Tryz.prog G0 1 (bodyAt Tryz.prog 22 [1, 0, 1, 0, 0]) (tollwayref50_Of_L1_H l_0 key_1 k6) (.exit 0) (S 25 [(4, .ptr 0 0)] [(bT [.str [], .str [], .str [], .int .i64 0, .int .i64 0, .nils, .int .i64 0] 35)]) :=
  Does.of_viewM 1 400 (cs 3 [.op none .a, .br false]) [0] (ps := [((decide ((↑k6 : Int) < (↑l_0.length : Int))) = false)]) (by kernel_rfl) (by kernel_rfl) (ok1 (decide_eq_false c7))
def tollwayref50_Of_L1_X (l_0 : (List Tapi_Charge)) (key_1 : (List UInt8)) : (((List UInt8) × (List UInt8) × (List UInt8) × Int × Int × (List Tapi_Line) × Int) ⊕ Unit) → AEx := fun q => match q with | Sum.inl o => .ret | Sum.inr (o) => (.exit 0)
def tollwayref50_Of_L1_E (l_0 : (List Tapi_Charge)) (key_1 : (List UInt8)) : (((List UInt8) × (List UInt8) × (List UInt8) × Int × Int × (List Tapi_Line) × Int) ⊕ Unit) → St := fun q => match q with | Sum.inl o => S 25 [(4, .ptr 0 0), (5, .bool true)] [(bT [.str o.1, .str o.2.1, .str o.2.2.1, .int .i64 o.2.2.2.1, .int .i64 o.2.2.2.2.1, .lst (fl Tapi_Line.enc o.2.2.2.2.2.1) o.2.2.2.2.2.1.length, .int .i64 o.2.2.2.2.2.2] 35)] | Sum.inr (o) => S 25 [(4, .ptr 0 0)] [(bT [.str [], .str [], .str [], .int .i64 0, .int .i64 0, .nils, .int .i64 0] 35)]
theorem tollwayref50_Of_L1_does (l_0 : (List Tapi_Charge)) (key_1 : (List UInt8)) {s : Nat} {r : ((List UInt8) × (List UInt8) × (List UInt8) × Int × Int × (List Tapi_Line) × Int) ⊕ Unit} (h : lp (tollwayref50_Of_L1_step l_0 key_1) s = some r) : Does Tryz.prog G0 1 (.loop (bodyAt Tryz.prog 22 [1, 0, 1, 0, 0])) (tollwayref50_Of_L1_H l_0 key_1 s) (tollwayref50_Of_L1_X l_0 key_1 r) (tollwayref50_Of_L1_E l_0 key_1 r) := by
  refine Does.lp (H := tollwayref50_Of_L1_H l_0 key_1) (X := tollwayref50_Of_L1_X l_0 key_1) (E := tollwayref50_Of_L1_E l_0 key_1) (fun s s2 h => ?_) (fun s r h => ?_) h
  · revert h; revert s; intro k6 h
    unfold tollwayref50_Of_L1_step at h
    try dsimp only at h
    rcases ite_some h with ⟨c7, h⟩ | ⟨c7, h⟩
    · obtain ⟨x8, h9, h⟩ := bind_some h
      rcases ite_some h with ⟨c10, h⟩ | ⟨c10, h⟩
      · simp at h
      · obtain ⟨h11, h⟩ := guard_some h
        simp only [Option.some.injEq, Sum.inl.injEq] at h
        subst h
        have hq := tollwayref50_Of_L1_1 l_0 key_1 k6 c7 x8 h9 c10 h11
        first | exact hq | exact Eq.mp (by simp only [tollwayref50_Of_L1_H, List.length_set] <;> rfl) hq
    · simp at h
  · revert h; revert s; intro k6 h
    unfold tollwayref50_Of_L1_step at h
    try dsimp only at h
    rcases ite_some h with ⟨c7, h⟩ | ⟨c7, h⟩
    · obtain ⟨x8, h9, h⟩ := bind_some h
      rcases ite_some h with ⟨c10, h⟩ | ⟨c10, h⟩
      · simp only [Option.some.injEq, Sum.inr.injEq] at h
        subst h
        exact ⟨tollwayref50_Of_L1_0 l_0 key_1 k6 c7 x8 h9 c10, by intro q; cases q⟩
      · obtain ⟨h11, h⟩ := guard_some h
        simp at h
    · simp only [Option.some.injEq, Sum.inr.injEq] at h
      subst h
      exact ⟨tollwayref50_Of_L1_2 l_0 key_1 k6 c7, by intro q; cases q⟩
noncomputable def tollwayref50_Of (l_0 : (List Tapi_Charge)) (key_1 : (List UInt8)) : Option (Tapi_Charge × Bool) :=
  (lp (tollwayref50_Of_L1_step l_0 key_1) (0 : Nat)).bind fun qq => match qq with
  | Sum.inl o1 =>
    some ((⟨o1.1, o1.2.1, o1.2.2.1, o1.2.2.2.1, o1.2.2.2.2.1, o1.2.2.2.2.2.1, o1.2.2.2.2.2.2⟩ : Tapi_Charge), true)
  | Sum.inr (o1) =>
    some ((⟨([] : List UInt8), ([] : List UInt8), ([] : List UInt8), 0, 0, [], 0⟩ : Tapi_Charge), false)
def tollwayref50_Of_h1  : List CH := (cs 3 [])
def tollwayref50_Of_p2 (l_0 : (List Tapi_Charge)) (key_1 : (List UInt8)) : List Prop := [((.lst (fl Tapi_Charge.enc l_0) l_0.length : AV) = .lst (fl Tapi_Charge.enc l_0) l_0.length), ((.str key_1 : AV) = .str key_1), ((.ptr 0 0 : AV) = .ptr 0 0), ((.int .i64 0 : AV) = .int .i64 (↑(0 : Nat) : Int)), (((bT [.str [], .str [], .str [], .int .i64 0, .int .i64 0, .nils, .int .i64 0] 35) : Blk) = renB [0] (bT [.str [], .str [], .str [], .int .i64 0, .int .i64 0, .nils, .int .i64 0] 35))]
theorem tollwayref50_Of_p2q (l_0 : (List Tapi_Charge)) (key_1 : (List UInt8)) : allOk (tollwayref50_Of_p2 l_0 key_1) := ⟨rfl, rfl, rfl, rfl, ok1 rfl⟩
theorem tollwayref50_Of_0 (l_0 : (List Tapi_Charge)) (key_1 : (List UInt8)) (o1 : ((List UInt8) × (List UInt8) × (List UInt8) × Int × Int × (List Tapi_Line) × Int)) (hl1 : lp (tollwayref50_Of_L1_step l_0 key_1) (0 : Nat) = some (Sum.inl o1)) : Ret Tryz.prog G0 22 [.lst (fl Tapi_Charge.enc l_0) l_0.length, .str key_1] (.tup [.agg [.str o1.1, .str o1.2.1, .str o1.2.2.1, .int .i64 o1.2.2.2.1, .int .i64 o1.2.2.2.2.1, .lst (fl Tapi_Line.enc o1.2.2.2.2.2.1) o1.2.2.2.2.2.1.length, .int .i64 o1.2.2.2.2.2.2], .bool true]) [] :=
  Ret.of_view 400 ((tollwayref50_Of_h1) ++ [.fcut 1 .ret [(4, .ptr 0 0), (5, .bool true)] [(bT [.str o1.1, .str o1.2.1, .str o1.2.2.1, .int .i64 o1.2.2.2.1, .int .i64 o1.2.2.2.2.1, .lst (fl Tapi_Line.enc o1.2.2.2.2.2.1) o1.2.2.2.2.2.1.length, .int .i64 o1.2.2.2.2.2.2] 35)] [0] [(0, .lst (fl Tapi_Charge.enc l_0) l_0.length), (1, .str key_1), (4, .ptr 0 0), (6, .int .i64 (↑(0 : Nat) : Int))] [(bT [.str [], .str [], .str [], .int .i64 0, .int .i64 0, .nils, .int .i64 0] 35)]]) [] (ps := ((tollwayref50_Of_p2 l_0 key_1) ++ [(Does Tryz.prog G0 1 (.loop (bodyAt Tryz.prog 22 [1, 0, 1, 0, 0])) (S 25 [(0, .lst (fl Tapi_Charge.enc l_0) l_0.length), (1, .str key_1), (4, .ptr 0 0), (6, .int .i64 (↑(0 : Nat) : Int))] [(bT [.str [], .str [], .str [], .int .i64 0, .int .i64 0, .nils, .int .i64 0] 35)]) .ret (S 25 [(4, .ptr 0 0), (5, .bool true)] [(bT [.str o1.1, .str o1.2.1, .str o1.2.2.1, .int .i64 o1.2.2.2.1, .int .i64 o1.2.2.2.2.1, .lst (fl Tapi_Line.enc o1.2.2.2.2.2.1) o1.2.2.2.2.2.1.length, .int .i64 o1.2.2.2.2.2.2] 35)]))])) (by kernel_rfl) (by kernel_rfl) (allOk_append.2 ⟨(tollwayref50_Of_p2q l_0 key_1), (ok1 (tollwayref50_Of_L1_does l_0 key_1 (s := (0 : Nat)) (r := Sum.inl o1) hl1))⟩)
theorem tollwayref50_Of_1 (l_0 : (List Tapi_Charge)) (key_1 : (List UInt8)) (o1 : Unit) (hl1 : lp (tollwayref50_Of_L1_step l_0 key_1) (0 : Nat) = some (Sum.inr (o1))) : Ret Tryz.prog G0 22 [.lst (fl Tapi_Charge.enc l_0) l_0.length, .str key_1] (.tup [.agg [.str [], .str [], .str [], .int .i64 0, .int .i64 0, .nils, .int .i64 0], .bool false]) [] :=
  Ret.of_view 400 ((tollwayref50_Of_h1) ++ ((.fcut 1 (.exit 0) [(4, .ptr 0 0)] [(bT [.str [], .str [], .str [], .int .i64 0, .int .i64 0, .nils, .int .i64 0] 35)] [0] [(0, .lst (fl Tapi_Charge.enc l_0) l_0.length), (1, .str key_1), (4, .ptr 0 0), (6, .int .i64 (↑(0 : Nat) : Int))] [(bT [.str [], .str [], .str [], .int .i64 0, .int .i64 0, .nils, .int .i64 0] 35)]) :: (cs 3 []))) [] (ps := ((tollwayref50_Of_p2 l_0 key_1) ++ [(Does Tryz.prog G0 1 (.loop (bodyAt Tryz.prog 22 [1, 0, 1, 0, 0])) (S 25 [(0, .lst (fl Tapi_Charge.enc l_0) l_0.length), (1, .str key_1), (4, .ptr 0 0), (6, .int .i64 (↑(0 : Nat) : Int))] [(bT [.str [], .str [], .str [], .int .i64 0, .int .i64 0, .nils, .int .i64 0] 35)]) (.exit 0) (S 25 [(4, .ptr 0 0)] [(bT [.str [], .str [], .str [], .int .i64 0, .int .i64 0, .nils, .int .i64 0] 35)]))])) (by kernel_rfl) (by kernel_rfl) (allOk_append.2 ⟨(tollwayref50_Of_p2q l_0 key_1), (ok1 (tollwayref50_Of_L1_does l_0 key_1 (s := (0 : Nat)) (r := Sum.inr (o1)) hl1))⟩)
theorem tollwayref50_Of_ret (l_0 : (List Tapi_Charge)) (key_1 : (List UInt8)) (r : (Tapi_Charge × Bool)) (h : tollwayref50_Of l_0 key_1 = some r) : Ret Tryz.prog G0 22 [.lst (fl Tapi_Charge.enc l_0) l_0.length, .str key_1] (.tup [.agg (Tapi_Charge.enc r.1), .bool r.2]) [] := by
  unfold tollwayref50_Of at h
  obtain ⟨qq, hl1, h⟩ := bind_some h
  rcases qq with o1 | o1
  · dsimp only at h
    simp only [Option.some.injEq] at h
    subst h
    exact tollwayref50_Of_0 l_0 key_1 o1 hl1
  · dsimp only at h
    simp only [Option.some.injEq] at h
    subst h
    exact Ret.nl 4 (tollwayref50_Of_1 l_0 key_1 o1 hl1) rfl
end Go.Proofs.YtpadimnchmghpaaGreatDoor.Av
