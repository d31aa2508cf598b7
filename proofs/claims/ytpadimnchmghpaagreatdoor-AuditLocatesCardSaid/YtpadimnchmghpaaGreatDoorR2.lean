import Derived.Test.YtpadimnchmghpaaGreatDoorAvZ
import Derived.Test.YtpadimnchmghpaaGreatDoorProg
import Derived.Tactics
import Derived.Test.YtpadimnchmghpaaGreatDoorR1
import Derived.Test.YtpadimnchmghpaaGreatDoorAvSk
set_option linter.unusedVariables false
set_option linter.unusedSimpArgs false
set_option maxHeartbeats 4000000
set_option maxRecDepth 100000
namespace Go.Proofs.YtpadimnchmghpaaGreatDoor.Av
open Go Go.Proofs
structure Ttollwayref08_Found where
  L : (List Int)
  N : Int
def Ttollwayref08_Found.enc (x : Ttollwayref08_Found) : List AV := [.lst (fl e_i64 x.L) x.L.length, .int .i64 x.N]
noncomputable def tollwayref08_below (rec_tollwayref08_below : (List (List Int)) → (List (List Int)) → Int → (List Int) → Int → Option (List Int × Int)) (a : (List (List Int))) (b : (List (List Int))) (at_ : Int) (l : (List Int)) (n : Int) : Option (List Int × Int) :=
  if InR .i64 ((↑a.length : Int) - 1) then
    if ((↑a.length : Int) - 1) > (0 : Int) then
      if InR .i64 (2 * at_) then
        if InR .i64 ((2 * at_) + 1) then
          if InR .i64 (((↑a.length : Int) - 1) - 1) then
            if (0 : Int) ≤ (((↑a.length : Int) - 1) - 1) then
              (a[(Int.toNat (((↑a.length : Int) - 1) - 1))]?).bind fun x7 =>
              if ((2 * at_) + 1) ≥ (↑x7.length : Int) then
                if (0 : Int) ≤ ((↑a.length : Int) - 1) then
                  if (Int.toNat ((↑a.length : Int) - 1)) ≤ a.length then
                    if (Int.toNat ((↑a.length : Int) - 1)) ≤ b.length then
                      (rec_tollwayref08_below (List.take (Int.toNat ((↑a.length : Int) - 1)) a) (List.take (Int.toNat ((↑a.length : Int) - 1)) b) (2 * at_) l n).bind fun r13 =>
                      some (r13.1, r13.2)
                    else none
                  else none
                else none
              else
                if InR .i64 (n + 1) then
                  if (0 : Int) ≤ ((↑a.length : Int) - 1) then
                    (a[(Int.toNat ((↑a.length : Int) - 1))]?).bind fun x17 =>
                    if (0 : Int) ≤ at_ then
                      (x17[at_.toNat]?).bind fun x20 =>
                      (b[(Int.toNat ((↑a.length : Int) - 1))]?).bind fun x22 =>
                      (x22[at_.toNat]?).bind fun x24 =>
                      if x20 = x24 then
                        some (l, (n + 1))
                      else
                        if ((↑a.length : Int) - 1) = (0 : Int) then
                          if l.length + 1 ≤ 4294967296 then
                            some ((l ++ [at_]), (n + 1))
                          else none
                        else
                          if (Int.toNat ((↑a.length : Int) - 1)) ≤ a.length then
                            if (Int.toNat ((↑a.length : Int) - 1)) ≤ b.length then
                              (rec_tollwayref08_below (List.take (Int.toNat ((↑a.length : Int) - 1)) a) (List.take (Int.toNat ((↑a.length : Int) - 1)) b) (2 * at_) l (n + 1)).bind fun r31 =>
                              (rec_tollwayref08_below (List.take (Int.toNat ((↑a.length : Int) - 1)) a) (List.take (Int.toNat ((↑a.length : Int) - 1)) b) ((2 * at_) + 1) r31.1 r31.2).bind fun r33 =>
                              some (r33.1, r33.2)
                            else none
                          else none
                    else none
                  else none
                else none
            else none
          else none
        else none
      else none
    else
      if InR .i64 (n + 1) then
        if (0 : Int) ≤ ((↑a.length : Int) - 1) then
          (a[(Int.toNat ((↑a.length : Int) - 1))]?).bind fun x37 =>
          if (0 : Int) ≤ at_ then
            (x37[at_.toNat]?).bind fun x40 =>
            (b[(Int.toNat ((↑a.length : Int) - 1))]?).bind fun x42 =>
            (x42[at_.toNat]?).bind fun x44 =>
            if x40 = x44 then
              some (l, (n + 1))
            else
              if ((↑a.length : Int) - 1) = (0 : Int) then
                if l.length + 1 ≤ 4294967296 then
                  some ((l ++ [at_]), (n + 1))
                else none
              else
                if (Int.toNat ((↑a.length : Int) - 1)) ≤ a.length then
                  if (Int.toNat ((↑a.length : Int) - 1)) ≤ b.length then
                    if InR .i64 (2 * at_) then
                      (rec_tollwayref08_below (List.take (Int.toNat ((↑a.length : Int) - 1)) a) (List.take (Int.toNat ((↑a.length : Int) - 1)) b) (2 * at_) l (n + 1)).bind fun r52 =>
                      if InR .i64 ((2 * at_) + 1) then
                        (rec_tollwayref08_below (List.take (Int.toNat ((↑a.length : Int) - 1)) a) (List.take (Int.toNat ((↑a.length : Int) - 1)) b) ((2 * at_) + 1) r52.1 r52.2).bind fun r55 =>
                        some (r55.1, r55.2)
                      else none
                    else none
                  else none
                else none
          else none
        else none
      else none
  else none
theorem tollwayref08_below_ret (rec_tollwayref08_below : (List (List Int)) → (List (List Int)) → Int → (List Int) → Int → Option (List Int × Int)) (hrec_tollwayref08_below : ∀ (z0 : (List (List Int))) (z1 : (List (List Int))) (z2 : Int) (z3 : (List Int)) (z4 : Int) (r : (List Int × Int)), rec_tollwayref08_below z0 z1 z2 z3 z4 = some r → CallsM Tryz.prog G0 0 64 [.lst (fl (e_lst e_u64) z0) z0.length, .lst (fl (e_lst e_u64) z1) z1.length, .int .i64 z2, .agg [.vec 0 z3.length 1, .int .i64 z4]] [(bV (fl e_i64 z3) 3)] (.agg [.vec 0 r.1.length 1, .int .i64 r.2]) [(bV (fl e_i64 r.1) 3)]) (a : (List (List Int))) (b : (List (List Int))) (at_ : Int) (l : (List Int)) (n : Int) (r : (List Int × Int)) (h : tollwayref08_below rec_tollwayref08_below a b at_ l n = some r) : CallsM Tryz.prog G0 0 64 [.lst (fl (e_lst e_u64) a) a.length, .lst (fl (e_lst e_u64) b) b.length, .int .i64 at_, .agg [.vec 0 l.length 1, .int .i64 n]] [(bV (fl e_i64 l) 3)] (.agg [.vec 0 r.1.length 1, .int .i64 r.2]) [(bV (fl e_i64 r.1) 3)] := by
  unfold tollwayref08_below at h
  obtain ⟨h1, h⟩ := guard_some h
  rcases ite_some h with ⟨c2, h⟩ | ⟨c2, h⟩
  · obtain ⟨h3, h⟩ := guard_some h
    obtain ⟨h4, h⟩ := guard_some h
    obtain ⟨h5, h⟩ := guard_some h
    obtain ⟨h6, h⟩ := guard_some h
    obtain ⟨x7, h8, h⟩ := bind_some h
    rcases ite_some h with ⟨c9, h⟩ | ⟨c9, h⟩
    · obtain ⟨h10, h⟩ := guard_some h
      obtain ⟨h11, h⟩ := guard_some h
      obtain ⟨h12, h⟩ := guard_some h
      obtain ⟨r13, h14, h⟩ := bind_some h
      obtain rfl := oI h
      exact CallsM.of_view 0 400 (cs 4 (ow :: (cs 2 (oa :: oc :: tc :: ow :: ow :: (cs 2 (ow :: (.op none (.i (Int.toNat (((↑a.length : Int) - 1) - 1)))) :: (.op none (.v [.lst (fl e_u64 x7) x7.length])) :: oc :: oa :: oc :: (.br true) :: (cs 2 ((.op none (.s 0 (Int.toNat ((↑a.length : Int) - 1)))) :: (.trp (.eqt (.t 29) (.lst (fl (e_lst e_u64) (List.take (Int.toNat ((↑a.length : Int) - 1)) a)) ((List.take (Int.toNat ((↑a.length : Int) - 1)) a).length)))) :: (cs 2 ((.op none (.s 0 (Int.toNat ((↑a.length : Int) - 1)))) :: (.trp (.eqt (.t 32) (.lst (fl (e_lst e_u64) (List.take (Int.toNat ((↑a.length : Int) - 1)) b)) ((List.take (Int.toNat ((↑a.length : Int) - 1)) b).length)))) :: oc :: ow :: (cs 2 [.spec (fspec 0 [0] [.lst (fl (e_lst e_u64) (List.take (Int.toNat ((↑a.length : Int) - 1)) a)) ((List.take (Int.toNat ((↑a.length : Int) - 1)) a).length), .lst (fl (e_lst e_u64) (List.take (Int.toNat ((↑a.length : Int) - 1)) b)) ((List.take (Int.toNat ((↑a.length : Int) - 1)) b).length), .int .i64 (2 * at_), .agg [.vec 0 l.length 1, .int .i64 n]] [(bV (fl e_i64 l) 3)] (.agg [.vec 0 r13.1.length 1, .int .i64 r13.2]) [(bV (fl e_i64 r13.1) 3)]), oc]))))))))))) [3] (by kernel_rfl) (by kernel_rfl) (k2 h1 (k2 (decide_eq_true c2) (k2 h3 (k2 h4 (k2 h5 (k2 (ix h6 h8) (k2 (fl_ne (f := (e_lst e_u64)) (z := 0) (fun _ => rfl) h8) (k2 (fl_sub1 (f := (e_lst e_u64)) (fun _ => rfl) h8 rfl) (k2 (decide_eq_true c9) (k2 ((Int.toNat_of_nonneg h10).symm : ((↑a.length : Int) - 1) = (((Int.toNat ((↑a.length : Int) - 1)) : Nat) : Int)) (k2 (⟨Nat.zero_le _, h11⟩ : 0 ≤ (Int.toNat ((↑a.length : Int) - 1)) ∧ (Int.toNat ((↑a.length : Int) - 1)) ≤ a.length) (k2 ((lst_eq (fl_take1 (f := (e_lst e_u64)) (fun _ => rfl) _ _) (by rw [List.length_take]; omega)) : (.lst (List.take (Int.toNat ((↑a.length : Int) - 1)) (fl (e_lst e_u64) a)) (Int.toNat ((↑a.length : Int) - 1)) : AV) = .lst (fl (e_lst e_u64) (List.take (Int.toNat ((↑a.length : Int) - 1)) a)) ((List.take (Int.toNat ((↑a.length : Int) - 1)) a).length)) (k2 ((Int.toNat_of_nonneg h10).symm : ((↑a.length : Int) - 1) = (((Int.toNat ((↑a.length : Int) - 1)) : Nat) : Int)) (k2 (⟨Nat.zero_le _, h12⟩ : 0 ≤ (Int.toNat ((↑a.length : Int) - 1)) ∧ (Int.toNat ((↑a.length : Int) - 1)) ≤ b.length) (k2 ((lst_eq (fl_take1 (f := (e_lst e_u64)) (fun _ => rfl) _ _) (by rw [List.length_take]; omega)) : (.lst (List.take (Int.toNat ((↑a.length : Int) - 1)) (fl (e_lst e_u64) b)) (Int.toNat ((↑a.length : Int) - 1)) : AV) = .lst (fl (e_lst e_u64) (List.take (Int.toNat ((↑a.length : Int) - 1)) b)) ((List.take (Int.toNat ((↑a.length : Int) - 1)) b).length)) (k2 h3 (k2 ((fspec_ok _ (hrec_tollwayref08_below (List.take (Int.toNat ((↑a.length : Int) - 1)) a) (List.take (Int.toNat ((↑a.length : Int) - 1)) b) (2 * at_) l n r13 h14)) : SpecOk Tryz.prog G0 64 (fspec 0 [0] [.lst (fl (e_lst e_u64) (List.take (Int.toNat ((↑a.length : Int) - 1)) a)) ((List.take (Int.toNat ((↑a.length : Int) - 1)) a).length), .lst (fl (e_lst e_u64) (List.take (Int.toNat ((↑a.length : Int) - 1)) b)) ((List.take (Int.toNat ((↑a.length : Int) - 1)) b).length), .int .i64 (2 * at_), .agg [.vec 0 l.length 1, .int .i64 n]] [(bV (fl e_i64 l) 3)] (.agg [.vec 0 r13.1.length 1, .int .i64 r13.2]) [(bV (fl e_i64 r13.1) 3)])) (ok1 (⟨rfl, rfl, trivial⟩ : (([.lst (fl (e_lst e_u64) (List.take (Int.toNat ((↑a.length : Int) - 1)) a)) ((List.take (Int.toNat ((↑a.length : Int) - 1)) a).length), .lst (fl (e_lst e_u64) (List.take (Int.toNat ((↑a.length : Int) - 1)) b)) ((List.take (Int.toNat ((↑a.length : Int) - 1)) b).length), .int .i64 (2 * at_), .agg [.vec 0 l.length 1, .int .i64 n]] : List AV) = [.lst (fl (e_lst e_u64) (List.take (Int.toNat ((↑a.length : Int) - 1)) a)) ((List.take (Int.toNat ((↑a.length : Int) - 1)) a).length), .lst (fl (e_lst e_u64) (List.take (Int.toNat ((↑a.length : Int) - 1)) b)) ((List.take (Int.toNat ((↑a.length : Int) - 1)) b).length), .int .i64 (2 * at_), .agg [.vec 0 l.length 1, .int .i64 n]]) ∧ (some (Ob.blk (bV (fl e_i64 l) 3)) = some (Ob.blk (bV (fl e_i64 l) 3))) ∧ True)))))))))))))))))))
    · obtain ⟨h15, h⟩ := guard_some h
      obtain ⟨h16, h⟩ := guard_some h
      obtain ⟨x17, h18, h⟩ := bind_some h
      obtain ⟨h19, h⟩ := guard_some h
      obtain ⟨x20, h21, h⟩ := bind_some h
      obtain ⟨x22, h23, h⟩ := bind_some h
      obtain ⟨x24, h25, h⟩ := bind_some h
      rcases ite_some h with ⟨c26, h⟩ | ⟨c26, h⟩
      · obtain rfl := oI h
        exact CallsM.of_view 0 400 (cs 4 (ow :: (cs 2 (oa :: oc :: tc :: ow :: ow :: (cs 2 (ow :: (.op none (.i (Int.toNat (((↑a.length : Int) - 1) - 1)))) :: (.op none (.v [.lst (fl e_u64 x7) x7.length])) :: oc :: oa :: oc :: (.br false) :: (cs 2 (ow :: (cs 4 ((.op none (.i (Int.toNat ((↑a.length : Int) - 1)))) :: (.op none (.v [.lst (fl e_u64 x17) x17.length])) :: oc :: (.op none (.i at_.toNat)) :: (.op none (.v [.int .u64 x20])) :: (cs 2 ((.op none (.i (Int.toNat ((↑a.length : Int) - 1)))) :: (.op none (.v [.lst (fl e_u64 x22) x22.length])) :: oc :: (.op none (.i at_.toNat)) :: (.op none (.v [.int .u64 x24])) :: oa :: (.br true) :: (cs 2 []))))))))))))) [0] (by kernel_rfl) (by kernel_rfl) (k2 h1 (k2 (decide_eq_true c2) (k2 h3 (k2 h4 (k2 h5 (k2 (ix h6 h8) (k2 (fl_ne (f := (e_lst e_u64)) (z := 0) (fun _ => rfl) h8) (k2 (fl_sub1 (f := (e_lst e_u64)) (fun _ => rfl) h8 rfl) (k2 (decide_eq_false c9) (k2 h15 (k2 (ix h16 h18) (k2 (fl_ne (f := (e_lst e_u64)) (z := 0) (fun _ => rfl) h18) (k2 (fl_sub1 (f := (e_lst e_u64)) (fun _ => rfl) h18 rfl) (k2 (ix h19 h21) (k2 (fl_ne (f := e_u64) (z := 0) (fun _ => rfl) h21) (k2 (s_u64 h21) (k2 (ix h16 h23) (k2 (fl_ne (f := (e_lst e_u64)) (z := 0) (fun _ => rfl) h23) (k2 (fl_sub1 (f := (e_lst e_u64)) (fun _ => rfl) h23 rfl) (k2 (ix h19 h25) (k2 (fl_ne (f := e_u64) (z := 0) (fun _ => rfl) h25) (k2 (s_u64 h25) (ok1 (beq_t c26))))))))))))))))))))))))
      · rcases ite_some h with ⟨c27, h⟩ | ⟨c27, h⟩
        · obtain ⟨h28, h⟩ := guard_some h
          obtain rfl := oI h
          exact CallsM.of_view 0 400 (cs 4 (ow :: (cs 2 (oa :: oc :: tc :: ow :: ow :: (cs 2 (ow :: (.op none (.i (Int.toNat (((↑a.length : Int) - 1) - 1)))) :: (.op none (.v [.lst (fl e_u64 x7) x7.length])) :: oc :: oa :: oc :: (.br false) :: (cs 2 (ow :: (cs 4 ((.op none (.i (Int.toNat ((↑a.length : Int) - 1)))) :: (.op none (.v [.lst (fl e_u64 x17) x17.length])) :: oc :: (.op none (.i at_.toNat)) :: (.op none (.v [.int .u64 x20])) :: (cs 2 ((.op none (.i (Int.toNat ((↑a.length : Int) - 1)))) :: (.op none (.v [.lst (fl e_u64 x22) x22.length])) :: oc :: (.op none (.i at_.toNat)) :: (.op none (.v [.int .u64 x24])) :: oa :: (.br false) :: oc :: oa :: (.br true) :: (cs 4 ((.op none (.ap 4)) :: (.tr (.eqc 4 (fl e_i64 (l ++ [at_])))) :: (.tr (.eqt (.t 63) (.vec 4 ((l ++ [at_]).length) 1))) :: (cs 4 []))))))))))))))) [4] (by kernel_rfl) (by kernel_rfl) (k2 h1 (k2 (decide_eq_true c2) (k2 h3 (k2 h4 (k2 h5 (k2 (ix h6 h8) (k2 (fl_ne (f := (e_lst e_u64)) (z := 0) (fun _ => rfl) h8) (k2 (fl_sub1 (f := (e_lst e_u64)) (fun _ => rfl) h8 rfl) (k2 (decide_eq_false c9) (k2 h15 (k2 (ix h16 h18) (k2 (fl_ne (f := (e_lst e_u64)) (z := 0) (fun _ => rfl) h18) (k2 (fl_sub1 (f := (e_lst e_u64)) (fun _ => rfl) h18 rfl) (k2 (ix h19 h21) (k2 (fl_ne (f := e_u64) (z := 0) (fun _ => rfl) h21) (k2 (s_u64 h21) (k2 (ix h16 h23) (k2 (fl_ne (f := (e_lst e_u64)) (z := 0) (fun _ => rfl) h23) (k2 (fl_sub1 (f := (e_lst e_u64)) (fun _ => rfl) h23 rfl) (k2 (ix h19 h25) (k2 (fl_ne (f := e_u64) (z := 0) (fun _ => rfl) h25) (k2 (s_u64 h25) (k2 (beq_f c26) (k2 (beq_t c27) (k2 ((Nat.le_of_ble_eq_true rfl) : 0 + 1 ≤ List.length ([.int .i64 at_] : List AV)) (k2 ((fl_length1 (f := e_i64) (fun _ => rfl) _) : List.length ((fl e_i64 l) : List AV) = l.length) (k2 (rfl : List.all ([.int .i64 at_] : List AV) AV.one = true) (k2 h28 (k2 ((fl_snoc rfl) : (fl e_i64 l) ++ [.int .i64 at_] = (fl e_i64 (l ++ [at_]))) (ok1 ((by simp <;> omega) : (.vec 4 (l.length + 1) 1 : AV) = .vec 4 ((l ++ [at_]).length) 1)))))))))))))))))))))))))))))))
        · obtain ⟨h29, h⟩ := guard_some h
          obtain ⟨h30, h⟩ := guard_some h
          obtain ⟨r31, h32, h⟩ := bind_some h
          obtain ⟨r33, h34, h⟩ := bind_some h
          obtain rfl := oI h
          exact CallsM.of_view 0 400 (cs 4 (ow :: (cs 2 (oa :: oc :: tc :: ow :: ow :: (cs 2 (ow :: (.op none (.i (Int.toNat (((↑a.length : Int) - 1) - 1)))) :: (.op none (.v [.lst (fl e_u64 x7) x7.length])) :: oc :: oa :: oc :: (.br false) :: (cs 2 (ow :: (cs 4 ((.op none (.i (Int.toNat ((↑a.length : Int) - 1)))) :: (.op none (.v [.lst (fl e_u64 x17) x17.length])) :: oc :: (.op none (.i at_.toNat)) :: (.op none (.v [.int .u64 x20])) :: (cs 2 ((.op none (.i (Int.toNat ((↑a.length : Int) - 1)))) :: (.op none (.v [.lst (fl e_u64 x22) x22.length])) :: oc :: (.op none (.i at_.toNat)) :: (.op none (.v [.int .u64 x24])) :: oa :: (.br false) :: oc :: oa :: (.br false) :: (cs 2 ((.op none (.s 0 (Int.toNat ((↑a.length : Int) - 1)))) :: (.trp (.eqt (.t 68) (.lst (fl (e_lst e_u64) (List.take (Int.toNat ((↑a.length : Int) - 1)) a)) ((List.take (Int.toNat ((↑a.length : Int) - 1)) a).length)))) :: (cs 2 ((.op none (.s 0 (Int.toNat ((↑a.length : Int) - 1)))) :: (.trp (.eqt (.t 71) (.lst (fl (e_lst e_u64) (List.take (Int.toNat ((↑a.length : Int) - 1)) b)) ((List.take (Int.toNat ((↑a.length : Int) - 1)) b).length)))) :: oc :: ow :: (.draw [[1]]) :: oc :: (.trp (.fgt (.c 1 0))) :: oc :: (.spec (fspec 0 [0] [.lst (fl (e_lst e_u64) (List.take (Int.toNat ((↑a.length : Int) - 1)) a)) ((List.take (Int.toNat ((↑a.length : Int) - 1)) a).length), .lst (fl (e_lst e_u64) (List.take (Int.toNat ((↑a.length : Int) - 1)) b)) ((List.take (Int.toNat ((↑a.length : Int) - 1)) b).length), .int .i64 (2 * at_), .agg [.vec 0 l.length 1, .int .i64 (n + 1)]] [(bV (fl e_i64 l) 3)] (.agg [.vec 0 r31.1.length 1, .int .i64 r31.2]) [(bV (fl e_i64 r31.1) 3)])) :: (cs 3 ((.op none (.s 0 (Int.toNat ((↑a.length : Int) - 1)))) :: (.trp (.eqt (.t 78) (.lst (fl (e_lst e_u64) (List.take (Int.toNat ((↑a.length : Int) - 1)) a)) ((List.take (Int.toNat ((↑a.length : Int) - 1)) a).length)))) :: (cs 2 ((.op none (.s 0 (Int.toNat ((↑a.length : Int) - 1)))) :: (.trp (.eqt (.t 81) (.lst (fl (e_lst e_u64) (List.take (Int.toNat ((↑a.length : Int) - 1)) b)) ((List.take (Int.toNat ((↑a.length : Int) - 1)) b).length)))) :: oc :: ow :: ow :: (cs 2 [.spec (fspec 0 [3] [.lst (fl (e_lst e_u64) (List.take (Int.toNat ((↑a.length : Int) - 1)) a)) ((List.take (Int.toNat ((↑a.length : Int) - 1)) a).length), .lst (fl (e_lst e_u64) (List.take (Int.toNat ((↑a.length : Int) - 1)) b)) ((List.take (Int.toNat ((↑a.length : Int) - 1)) b).length), .int .i64 ((2 * at_) + 1), .agg [.vec 0 r31.1.length 1, .int .i64 r31.2]] [(bV (fl e_i64 r31.1) 3)] (.agg [.vec 0 r33.1.length 1, .int .i64 r33.2]) [(bV (fl e_i64 r33.1) 3)]), oc]))))))))))))))))))))) [4] (by kernel_rfl) (by kernel_rfl) (k2 h1 (k2 (decide_eq_true c2) (k2 h3 (k2 h4 (k2 h5 (k2 (ix h6 h8) (k2 (fl_ne (f := (e_lst e_u64)) (z := 0) (fun _ => rfl) h8) (k2 (fl_sub1 (f := (e_lst e_u64)) (fun _ => rfl) h8 rfl) (k2 (decide_eq_false c9) (k2 h15 (k2 (ix h16 h18) (k2 (fl_ne (f := (e_lst e_u64)) (z := 0) (fun _ => rfl) h18) (k2 (fl_sub1 (f := (e_lst e_u64)) (fun _ => rfl) h18 rfl) (k2 (ix h19 h21) (k2 (fl_ne (f := e_u64) (z := 0) (fun _ => rfl) h21) (k2 (s_u64 h21) (k2 (ix h16 h23) (k2 (fl_ne (f := (e_lst e_u64)) (z := 0) (fun _ => rfl) h23) (k2 (fl_sub1 (f := (e_lst e_u64)) (fun _ => rfl) h23 rfl) (k2 (ix h19 h25) (k2 (fl_ne (f := e_u64) (z := 0) (fun _ => rfl) h25) (k2 (s_u64 h25) (k2 (beq_f c26) (k2 (beq_f c27) (k2 ((Int.toNat_of_nonneg h16).symm : ((↑a.length : Int) - 1) = (((Int.toNat ((↑a.length : Int) - 1)) : Nat) : Int)) (k2 (⟨Nat.zero_le _, h29⟩ : 0 ≤ (Int.toNat ((↑a.length : Int) - 1)) ∧ (Int.toNat ((↑a.length : Int) - 1)) ≤ a.length) (k2 ((lst_eq (fl_take1 (f := (e_lst e_u64)) (fun _ => rfl) _ _) (by rw [List.length_take]; omega)) : (.lst (List.take (Int.toNat ((↑a.length : Int) - 1)) (fl (e_lst e_u64) a)) (Int.toNat ((↑a.length : Int) - 1)) : AV) = .lst (fl (e_lst e_u64) (List.take (Int.toNat ((↑a.length : Int) - 1)) a)) ((List.take (Int.toNat ((↑a.length : Int) - 1)) a).length)) (k2 ((Int.toNat_of_nonneg h16).symm : ((↑a.length : Int) - 1) = (((Int.toNat ((↑a.length : Int) - 1)) : Nat) : Int)) (k2 (⟨Nat.zero_le _, h30⟩ : 0 ≤ (Int.toNat ((↑a.length : Int) - 1)) ∧ (Int.toNat ((↑a.length : Int) - 1)) ≤ b.length) (k2 ((lst_eq (fl_take1 (f := (e_lst e_u64)) (fun _ => rfl) _ _) (by rw [List.length_take]; omega)) : (.lst (List.take (Int.toNat ((↑a.length : Int) - 1)) (fl (e_lst e_u64) b)) (Int.toNat ((↑a.length : Int) - 1)) : AV) = .lst (fl (e_lst e_u64) (List.take (Int.toNat ((↑a.length : Int) - 1)) b)) ((List.take (Int.toNat ((↑a.length : Int) - 1)) b).length)) (k2 h3 (k2 (⟨rfl, trivial⟩ : (some (Ob.blk (bV (fl e_i64 l) 3)) = some (Ob.blk (bV (fl e_i64 l) 3))) ∧ True) (k2 ((fspec_ok _ (hrec_tollwayref08_below (List.take (Int.toNat ((↑a.length : Int) - 1)) a) (List.take (Int.toNat ((↑a.length : Int) - 1)) b) (2 * at_) l (n + 1) r31 h32)) : SpecOk Tryz.prog G0 64 (fspec 0 [0] [.lst (fl (e_lst e_u64) (List.take (Int.toNat ((↑a.length : Int) - 1)) a)) ((List.take (Int.toNat ((↑a.length : Int) - 1)) a).length), .lst (fl (e_lst e_u64) (List.take (Int.toNat ((↑a.length : Int) - 1)) b)) ((List.take (Int.toNat ((↑a.length : Int) - 1)) b).length), .int .i64 (2 * at_), .agg [.vec 0 l.length 1, .int .i64 (n + 1)]] [(bV (fl e_i64 l) 3)] (.agg [.vec 0 r31.1.length 1, .int .i64 r31.2]) [(bV (fl e_i64 r31.1) 3)])) (k2 (⟨rfl, rfl, trivial⟩ : (([.lst (fl (e_lst e_u64) (List.take (Int.toNat ((↑a.length : Int) - 1)) a)) ((List.take (Int.toNat ((↑a.length : Int) - 1)) a).length), .lst (fl (e_lst e_u64) (List.take (Int.toNat ((↑a.length : Int) - 1)) b)) ((List.take (Int.toNat ((↑a.length : Int) - 1)) b).length), .int .i64 (2 * at_), .agg [.vec 0 l.length 1, .int .i64 (n + 1)]] : List AV) = [.lst (fl (e_lst e_u64) (List.take (Int.toNat ((↑a.length : Int) - 1)) a)) ((List.take (Int.toNat ((↑a.length : Int) - 1)) a).length), .lst (fl (e_lst e_u64) (List.take (Int.toNat ((↑a.length : Int) - 1)) b)) ((List.take (Int.toNat ((↑a.length : Int) - 1)) b).length), .int .i64 (2 * at_), .agg [.vec 0 l.length 1, .int .i64 (n + 1)]]) ∧ (some (Ob.blk (bV (fl e_i64 l) 3)) = some (Ob.blk (bV (fl e_i64 l) 3))) ∧ True) (k2 ((Int.toNat_of_nonneg h16).symm : ((↑a.length : Int) - 1) = (((Int.toNat ((↑a.length : Int) - 1)) : Nat) : Int)) (k2 (⟨Nat.zero_le _, h29⟩ : 0 ≤ (Int.toNat ((↑a.length : Int) - 1)) ∧ (Int.toNat ((↑a.length : Int) - 1)) ≤ a.length) (k2 ((lst_eq (fl_take1 (f := (e_lst e_u64)) (fun _ => rfl) _ _) (by rw [List.length_take]; omega)) : (.lst (List.take (Int.toNat ((↑a.length : Int) - 1)) (fl (e_lst e_u64) a)) (Int.toNat ((↑a.length : Int) - 1)) : AV) = .lst (fl (e_lst e_u64) (List.take (Int.toNat ((↑a.length : Int) - 1)) a)) ((List.take (Int.toNat ((↑a.length : Int) - 1)) a).length)) (k2 ((Int.toNat_of_nonneg h16).symm : ((↑a.length : Int) - 1) = (((Int.toNat ((↑a.length : Int) - 1)) : Nat) : Int)) (k2 (⟨Nat.zero_le _, h30⟩ : 0 ≤ (Int.toNat ((↑a.length : Int) - 1)) ∧ (Int.toNat ((↑a.length : Int) - 1)) ≤ b.length) (k2 ((lst_eq (fl_take1 (f := (e_lst e_u64)) (fun _ => rfl) _ _) (by rw [List.length_take]; omega)) : (.lst (List.take (Int.toNat ((↑a.length : Int) - 1)) (fl (e_lst e_u64) b)) (Int.toNat ((↑a.length : Int) - 1)) : AV) = .lst (fl (e_lst e_u64) (List.take (Int.toNat ((↑a.length : Int) - 1)) b)) ((List.take (Int.toNat ((↑a.length : Int) - 1)) b).length)) (k2 h3 (k2 h4 (k2 ((fspec_ok _ (hrec_tollwayref08_below (List.take (Int.toNat ((↑a.length : Int) - 1)) a) (List.take (Int.toNat ((↑a.length : Int) - 1)) b) ((2 * at_) + 1) r31.1 r31.2 r33 h34)) : SpecOk Tryz.prog G0 64 (fspec 0 [3] [.lst (fl (e_lst e_u64) (List.take (Int.toNat ((↑a.length : Int) - 1)) a)) ((List.take (Int.toNat ((↑a.length : Int) - 1)) a).length), .lst (fl (e_lst e_u64) (List.take (Int.toNat ((↑a.length : Int) - 1)) b)) ((List.take (Int.toNat ((↑a.length : Int) - 1)) b).length), .int .i64 ((2 * at_) + 1), .agg [.vec 0 r31.1.length 1, .int .i64 r31.2]] [(bV (fl e_i64 r31.1) 3)] (.agg [.vec 0 r33.1.length 1, .int .i64 r33.2]) [(bV (fl e_i64 r33.1) 3)])) (ok1 (⟨rfl, rfl, trivial⟩ : (([.lst (fl (e_lst e_u64) (List.take (Int.toNat ((↑a.length : Int) - 1)) a)) ((List.take (Int.toNat ((↑a.length : Int) - 1)) a).length), .lst (fl (e_lst e_u64) (List.take (Int.toNat ((↑a.length : Int) - 1)) b)) ((List.take (Int.toNat ((↑a.length : Int) - 1)) b).length), .int .i64 ((2 * at_) + 1), .agg [.vec 3 r31.1.length 1, .int .i64 r31.2]] : List AV) = [.lst (fl (e_lst e_u64) (List.take (Int.toNat ((↑a.length : Int) - 1)) a)) ((List.take (Int.toNat ((↑a.length : Int) - 1)) a).length), .lst (fl (e_lst e_u64) (List.take (Int.toNat ((↑a.length : Int) - 1)) b)) ((List.take (Int.toNat ((↑a.length : Int) - 1)) b).length), .int .i64 ((2 * at_) + 1), .agg [.vec 3 r31.1.length 1, .int .i64 r31.2]]) ∧ (some (Ob.blk (bV (fl e_i64 r31.1) 3)) = some (Ob.blk (bV (fl e_i64 r31.1) 3))) ∧ True)))))))))))))))))))))))))))))))))))))))))))))
  · obtain ⟨h35, h⟩ := guard_some h
    obtain ⟨h36, h⟩ := guard_some h
    obtain ⟨x37, h38, h⟩ := bind_some h
    obtain ⟨h39, h⟩ := guard_some h
    obtain ⟨x40, h41, h⟩ := bind_some h
    obtain ⟨x42, h43, h⟩ := bind_some h
    obtain ⟨x44, h45, h⟩ := bind_some h
    rcases ite_some h with ⟨c46, h⟩ | ⟨c46, h⟩
    · obtain rfl := oI h
      exact CallsM.of_view 0 400 (cs 4 (ow :: (cs 2 (oa :: oc :: (.op (some false) .c) :: (cs 10 ((.br false) :: (cs 2 (ow :: (cs 4 ((.op none (.i (Int.toNat ((↑a.length : Int) - 1)))) :: (.op none (.v [.lst (fl e_u64 x37) x37.length])) :: oc :: (.op none (.i at_.toNat)) :: (.op none (.v [.int .u64 x40])) :: (cs 2 ((.op none (.i (Int.toNat ((↑a.length : Int) - 1)))) :: (.op none (.v [.lst (fl e_u64 x42) x42.length])) :: oc :: (.op none (.i at_.toNat)) :: (.op none (.v [.int .u64 x44])) :: oa :: (.br true) :: (cs 2 []))))))))))))) [0] (by kernel_rfl) (by kernel_rfl) (k2 h1 (k2 (decide_eq_false c2) (k2 (rfl : false = false) (k2 h35 (k2 (ix h36 h38) (k2 (fl_ne (f := (e_lst e_u64)) (z := 0) (fun _ => rfl) h38) (k2 (fl_sub1 (f := (e_lst e_u64)) (fun _ => rfl) h38 rfl) (k2 (ix h39 h41) (k2 (fl_ne (f := e_u64) (z := 0) (fun _ => rfl) h41) (k2 (s_u64 h41) (k2 (ix h36 h43) (k2 (fl_ne (f := (e_lst e_u64)) (z := 0) (fun _ => rfl) h43) (k2 (fl_sub1 (f := (e_lst e_u64)) (fun _ => rfl) h43 rfl) (k2 (ix h39 h45) (k2 (fl_ne (f := e_u64) (z := 0) (fun _ => rfl) h45) (k2 (s_u64 h45) (ok1 (beq_t c46))))))))))))))))))
    · rcases ite_some h with ⟨c47, h⟩ | ⟨c47, h⟩
      · obtain ⟨h48, h⟩ := guard_some h
        obtain rfl := oI h
        exact CallsM.of_view 0 400 (cs 4 (ow :: (cs 2 (oa :: oc :: (.op (some false) .c) :: (cs 10 ((.br false) :: (cs 2 (ow :: (cs 4 ((.op none (.i (Int.toNat ((↑a.length : Int) - 1)))) :: (.op none (.v [.lst (fl e_u64 x37) x37.length])) :: oc :: (.op none (.i at_.toNat)) :: (.op none (.v [.int .u64 x40])) :: (cs 2 ((.op none (.i (Int.toNat ((↑a.length : Int) - 1)))) :: (.op none (.v [.lst (fl e_u64 x42) x42.length])) :: oc :: (.op none (.i at_.toNat)) :: (.op none (.v [.int .u64 x44])) :: oa :: (.br false) :: oc :: oa :: (.br true) :: (cs 4 ((.op none (.ap 4)) :: (.tr (.eqc 4 (fl e_i64 (l ++ [at_])))) :: (.tr (.eqt (.t 63) (.vec 4 ((l ++ [at_]).length) 1))) :: (cs 4 []))))))))))))))) [4] (by kernel_rfl) (by kernel_rfl) (k2 h1 (k2 (decide_eq_false c2) (k2 (rfl : false = false) (k2 h35 (k2 (ix h36 h38) (k2 (fl_ne (f := (e_lst e_u64)) (z := 0) (fun _ => rfl) h38) (k2 (fl_sub1 (f := (e_lst e_u64)) (fun _ => rfl) h38 rfl) (k2 (ix h39 h41) (k2 (fl_ne (f := e_u64) (z := 0) (fun _ => rfl) h41) (k2 (s_u64 h41) (k2 (ix h36 h43) (k2 (fl_ne (f := (e_lst e_u64)) (z := 0) (fun _ => rfl) h43) (k2 (fl_sub1 (f := (e_lst e_u64)) (fun _ => rfl) h43 rfl) (k2 (ix h39 h45) (k2 (fl_ne (f := e_u64) (z := 0) (fun _ => rfl) h45) (k2 (s_u64 h45) (k2 (beq_f c46) (k2 (beq_t c47) (k2 ((Nat.le_of_ble_eq_true rfl) : 0 + 1 ≤ List.length ([.int .i64 at_] : List AV)) (k2 ((fl_length1 (f := e_i64) (fun _ => rfl) _) : List.length ((fl e_i64 l) : List AV) = l.length) (k2 (rfl : List.all ([.int .i64 at_] : List AV) AV.one = true) (k2 h48 (k2 ((fl_snoc rfl) : (fl e_i64 l) ++ [.int .i64 at_] = (fl e_i64 (l ++ [at_]))) (ok1 ((by simp <;> omega) : (.vec 4 (l.length + 1) 1 : AV) = .vec 4 ((l ++ [at_]).length) 1)))))))))))))))))))))))))
      · obtain ⟨h49, h⟩ := guard_some h
        obtain ⟨h50, h⟩ := guard_some h
        obtain ⟨h51, h⟩ := guard_some h
        obtain ⟨r52, h53, h⟩ := bind_some h
        obtain ⟨h54, h⟩ := guard_some h
        obtain ⟨r55, h56, h⟩ := bind_some h
        obtain rfl := oI h
        exact CallsM.of_view 0 400 (cs 4 (ow :: (cs 2 (oa :: oc :: (.op (some false) .c) :: (cs 10 ((.br false) :: (cs 2 (ow :: (cs 4 ((.op none (.i (Int.toNat ((↑a.length : Int) - 1)))) :: (.op none (.v [.lst (fl e_u64 x37) x37.length])) :: oc :: (.op none (.i at_.toNat)) :: (.op none (.v [.int .u64 x40])) :: (cs 2 ((.op none (.i (Int.toNat ((↑a.length : Int) - 1)))) :: (.op none (.v [.lst (fl e_u64 x42) x42.length])) :: oc :: (.op none (.i at_.toNat)) :: (.op none (.v [.int .u64 x44])) :: oa :: (.br false) :: oc :: oa :: (.br false) :: (cs 2 ((.op none (.s 0 (Int.toNat ((↑a.length : Int) - 1)))) :: (.trp (.eqt (.t 68) (.lst (fl (e_lst e_u64) (List.take (Int.toNat ((↑a.length : Int) - 1)) a)) ((List.take (Int.toNat ((↑a.length : Int) - 1)) a).length)))) :: (cs 2 ((.op none (.s 0 (Int.toNat ((↑a.length : Int) - 1)))) :: (.trp (.eqt (.t 71) (.lst (fl (e_lst e_u64) (List.take (Int.toNat ((↑a.length : Int) - 1)) b)) ((List.take (Int.toNat ((↑a.length : Int) - 1)) b).length)))) :: oc :: ow :: (.draw [[1]]) :: oc :: (.trp (.fgt (.c 1 0))) :: oc :: (.spec (fspec 0 [0] [.lst (fl (e_lst e_u64) (List.take (Int.toNat ((↑a.length : Int) - 1)) a)) ((List.take (Int.toNat ((↑a.length : Int) - 1)) a).length), .lst (fl (e_lst e_u64) (List.take (Int.toNat ((↑a.length : Int) - 1)) b)) ((List.take (Int.toNat ((↑a.length : Int) - 1)) b).length), .int .i64 (2 * at_), .agg [.vec 0 l.length 1, .int .i64 (n + 1)]] [(bV (fl e_i64 l) 3)] (.agg [.vec 0 r52.1.length 1, .int .i64 r52.2]) [(bV (fl e_i64 r52.1) 3)])) :: (cs 3 ((.op none (.s 0 (Int.toNat ((↑a.length : Int) - 1)))) :: (.trp (.eqt (.t 78) (.lst (fl (e_lst e_u64) (List.take (Int.toNat ((↑a.length : Int) - 1)) a)) ((List.take (Int.toNat ((↑a.length : Int) - 1)) a).length)))) :: (cs 2 ((.op none (.s 0 (Int.toNat ((↑a.length : Int) - 1)))) :: (.trp (.eqt (.t 81) (.lst (fl (e_lst e_u64) (List.take (Int.toNat ((↑a.length : Int) - 1)) b)) ((List.take (Int.toNat ((↑a.length : Int) - 1)) b).length)))) :: oc :: ow :: ow :: (cs 2 [.spec (fspec 0 [3] [.lst (fl (e_lst e_u64) (List.take (Int.toNat ((↑a.length : Int) - 1)) a)) ((List.take (Int.toNat ((↑a.length : Int) - 1)) a).length), .lst (fl (e_lst e_u64) (List.take (Int.toNat ((↑a.length : Int) - 1)) b)) ((List.take (Int.toNat ((↑a.length : Int) - 1)) b).length), .int .i64 ((2 * at_) + 1), .agg [.vec 0 r52.1.length 1, .int .i64 r52.2]] [(bV (fl e_i64 r52.1) 3)] (.agg [.vec 0 r55.1.length 1, .int .i64 r55.2]) [(bV (fl e_i64 r55.1) 3)]), oc]))))))))))))))))))))) [4] (by kernel_rfl) (by kernel_rfl) (k2 h1 (k2 (decide_eq_false c2) (k2 (rfl : false = false) (k2 h35 (k2 (ix h36 h38) (k2 (fl_ne (f := (e_lst e_u64)) (z := 0) (fun _ => rfl) h38) (k2 (fl_sub1 (f := (e_lst e_u64)) (fun _ => rfl) h38 rfl) (k2 (ix h39 h41) (k2 (fl_ne (f := e_u64) (z := 0) (fun _ => rfl) h41) (k2 (s_u64 h41) (k2 (ix h36 h43) (k2 (fl_ne (f := (e_lst e_u64)) (z := 0) (fun _ => rfl) h43) (k2 (fl_sub1 (f := (e_lst e_u64)) (fun _ => rfl) h43 rfl) (k2 (ix h39 h45) (k2 (fl_ne (f := e_u64) (z := 0) (fun _ => rfl) h45) (k2 (s_u64 h45) (k2 (beq_f c46) (k2 (beq_f c47) (k2 ((Int.toNat_of_nonneg h36).symm : ((↑a.length : Int) - 1) = (((Int.toNat ((↑a.length : Int) - 1)) : Nat) : Int)) (k2 (⟨Nat.zero_le _, h49⟩ : 0 ≤ (Int.toNat ((↑a.length : Int) - 1)) ∧ (Int.toNat ((↑a.length : Int) - 1)) ≤ a.length) (k2 ((lst_eq (fl_take1 (f := (e_lst e_u64)) (fun _ => rfl) _ _) (by rw [List.length_take]; omega)) : (.lst (List.take (Int.toNat ((↑a.length : Int) - 1)) (fl (e_lst e_u64) a)) (Int.toNat ((↑a.length : Int) - 1)) : AV) = .lst (fl (e_lst e_u64) (List.take (Int.toNat ((↑a.length : Int) - 1)) a)) ((List.take (Int.toNat ((↑a.length : Int) - 1)) a).length)) (k2 ((Int.toNat_of_nonneg h36).symm : ((↑a.length : Int) - 1) = (((Int.toNat ((↑a.length : Int) - 1)) : Nat) : Int)) (k2 (⟨Nat.zero_le _, h50⟩ : 0 ≤ (Int.toNat ((↑a.length : Int) - 1)) ∧ (Int.toNat ((↑a.length : Int) - 1)) ≤ b.length) (k2 ((lst_eq (fl_take1 (f := (e_lst e_u64)) (fun _ => rfl) _ _) (by rw [List.length_take]; omega)) : (.lst (List.take (Int.toNat ((↑a.length : Int) - 1)) (fl (e_lst e_u64) b)) (Int.toNat ((↑a.length : Int) - 1)) : AV) = .lst (fl (e_lst e_u64) (List.take (Int.toNat ((↑a.length : Int) - 1)) b)) ((List.take (Int.toNat ((↑a.length : Int) - 1)) b).length)) (k2 h51 (k2 (⟨rfl, trivial⟩ : (some (Ob.blk (bV (fl e_i64 l) 3)) = some (Ob.blk (bV (fl e_i64 l) 3))) ∧ True) (k2 ((fspec_ok _ (hrec_tollwayref08_below (List.take (Int.toNat ((↑a.length : Int) - 1)) a) (List.take (Int.toNat ((↑a.length : Int) - 1)) b) (2 * at_) l (n + 1) r52 h53)) : SpecOk Tryz.prog G0 64 (fspec 0 [0] [.lst (fl (e_lst e_u64) (List.take (Int.toNat ((↑a.length : Int) - 1)) a)) ((List.take (Int.toNat ((↑a.length : Int) - 1)) a).length), .lst (fl (e_lst e_u64) (List.take (Int.toNat ((↑a.length : Int) - 1)) b)) ((List.take (Int.toNat ((↑a.length : Int) - 1)) b).length), .int .i64 (2 * at_), .agg [.vec 0 l.length 1, .int .i64 (n + 1)]] [(bV (fl e_i64 l) 3)] (.agg [.vec 0 r52.1.length 1, .int .i64 r52.2]) [(bV (fl e_i64 r52.1) 3)])) (k2 (⟨rfl, rfl, trivial⟩ : (([.lst (fl (e_lst e_u64) (List.take (Int.toNat ((↑a.length : Int) - 1)) a)) ((List.take (Int.toNat ((↑a.length : Int) - 1)) a).length), .lst (fl (e_lst e_u64) (List.take (Int.toNat ((↑a.length : Int) - 1)) b)) ((List.take (Int.toNat ((↑a.length : Int) - 1)) b).length), .int .i64 (2 * at_), .agg [.vec 0 l.length 1, .int .i64 (n + 1)]] : List AV) = [.lst (fl (e_lst e_u64) (List.take (Int.toNat ((↑a.length : Int) - 1)) a)) ((List.take (Int.toNat ((↑a.length : Int) - 1)) a).length), .lst (fl (e_lst e_u64) (List.take (Int.toNat ((↑a.length : Int) - 1)) b)) ((List.take (Int.toNat ((↑a.length : Int) - 1)) b).length), .int .i64 (2 * at_), .agg [.vec 0 l.length 1, .int .i64 (n + 1)]]) ∧ (some (Ob.blk (bV (fl e_i64 l) 3)) = some (Ob.blk (bV (fl e_i64 l) 3))) ∧ True) (k2 ((Int.toNat_of_nonneg h36).symm : ((↑a.length : Int) - 1) = (((Int.toNat ((↑a.length : Int) - 1)) : Nat) : Int)) (k2 (⟨Nat.zero_le _, h49⟩ : 0 ≤ (Int.toNat ((↑a.length : Int) - 1)) ∧ (Int.toNat ((↑a.length : Int) - 1)) ≤ a.length) (k2 ((lst_eq (fl_take1 (f := (e_lst e_u64)) (fun _ => rfl) _ _) (by rw [List.length_take]; omega)) : (.lst (List.take (Int.toNat ((↑a.length : Int) - 1)) (fl (e_lst e_u64) a)) (Int.toNat ((↑a.length : Int) - 1)) : AV) = .lst (fl (e_lst e_u64) (List.take (Int.toNat ((↑a.length : Int) - 1)) a)) ((List.take (Int.toNat ((↑a.length : Int) - 1)) a).length)) (k2 ((Int.toNat_of_nonneg h36).symm : ((↑a.length : Int) - 1) = (((Int.toNat ((↑a.length : Int) - 1)) : Nat) : Int)) (k2 (⟨Nat.zero_le _, h50⟩ : 0 ≤ (Int.toNat ((↑a.length : Int) - 1)) ∧ (Int.toNat ((↑a.length : Int) - 1)) ≤ b.length) (k2 ((lst_eq (fl_take1 (f := (e_lst e_u64)) (fun _ => rfl) _ _) (by rw [List.length_take]; omega)) : (.lst (List.take (Int.toNat ((↑a.length : Int) - 1)) (fl (e_lst e_u64) b)) (Int.toNat ((↑a.length : Int) - 1)) : AV) = .lst (fl (e_lst e_u64) (List.take (Int.toNat ((↑a.length : Int) - 1)) b)) ((List.take (Int.toNat ((↑a.length : Int) - 1)) b).length)) (k2 h51 (k2 h54 (k2 ((fspec_ok _ (hrec_tollwayref08_below (List.take (Int.toNat ((↑a.length : Int) - 1)) a) (List.take (Int.toNat ((↑a.length : Int) - 1)) b) ((2 * at_) + 1) r52.1 r52.2 r55 h56)) : SpecOk Tryz.prog G0 64 (fspec 0 [3] [.lst (fl (e_lst e_u64) (List.take (Int.toNat ((↑a.length : Int) - 1)) a)) ((List.take (Int.toNat ((↑a.length : Int) - 1)) a).length), .lst (fl (e_lst e_u64) (List.take (Int.toNat ((↑a.length : Int) - 1)) b)) ((List.take (Int.toNat ((↑a.length : Int) - 1)) b).length), .int .i64 ((2 * at_) + 1), .agg [.vec 0 r52.1.length 1, .int .i64 r52.2]] [(bV (fl e_i64 r52.1) 3)] (.agg [.vec 0 r55.1.length 1, .int .i64 r55.2]) [(bV (fl e_i64 r55.1) 3)])) (ok1 (⟨rfl, rfl, trivial⟩ : (([.lst (fl (e_lst e_u64) (List.take (Int.toNat ((↑a.length : Int) - 1)) a)) ((List.take (Int.toNat ((↑a.length : Int) - 1)) a).length), .lst (fl (e_lst e_u64) (List.take (Int.toNat ((↑a.length : Int) - 1)) b)) ((List.take (Int.toNat ((↑a.length : Int) - 1)) b).length), .int .i64 ((2 * at_) + 1), .agg [.vec 3 r52.1.length 1, .int .i64 r52.2]] : List AV) = [.lst (fl (e_lst e_u64) (List.take (Int.toNat ((↑a.length : Int) - 1)) a)) ((List.take (Int.toNat ((↑a.length : Int) - 1)) a).length), .lst (fl (e_lst e_u64) (List.take (Int.toNat ((↑a.length : Int) - 1)) b)) ((List.take (Int.toNat ((↑a.length : Int) - 1)) b).length), .int .i64 ((2 * at_) + 1), .agg [.vec 3 r52.1.length 1, .int .i64 r52.2]]) ∧ (some (Ob.blk (bV (fl e_i64 r52.1) 3)) = some (Ob.blk (bV (fl e_i64 r52.1) 3))) ∧ True)))))))))))))))))))))))))))))))))))))))
noncomputable def tollwayref08_below_fuel : Nat → (List (List Int)) → (List (List Int)) → Int → (List Int) → Int → Option (List Int × Int)
  | 0 => fun _ _ _ _ _ => none
  | k + 1 => tollwayref08_below (tollwayref08_below_fuel k)
theorem tollwayref08_below_fuel_ret : ∀ (k : Nat) (z0 : (List (List Int))) (z1 : (List (List Int))) (z2 : Int) (z3 : (List Int)) (z4 : Int) (r : (List Int × Int)), tollwayref08_below_fuel k z0 z1 z2 z3 z4 = some r → CallsM Tryz.prog G0 0 64 [.lst (fl (e_lst e_u64) z0) z0.length, .lst (fl (e_lst e_u64) z1) z1.length, .int .i64 z2, .agg [.vec 0 z3.length 1, .int .i64 z4]] [(bV (fl e_i64 z3) 3)] (.agg [.vec 0 r.1.length 1, .int .i64 r.2]) [(bV (fl e_i64 r.1) 3)]
  | 0, _, _, _, _, _, _, h => by cases h
  | k + 1, z0, z1, z2, z3, z4, r, h => tollwayref08_below_ret (tollwayref08_below_fuel k) (tollwayref08_below_fuel_ret k) z0 z1 z2 z3 z4 r h
noncomputable def tollwayref08_Differ_L9_step (a_0 : (List Int)) (b_1 : (List Int)) : (Nat × (List Int)) → Option ((Nat × (List Int)) ⊕ (List Int))
  | (k7, b0) =>
    if (↑k7 : Int) < (if (↑a_0.length : Int) < (↑b_1.length : Int) then (↑b_1.length : Int) else (↑a_0.length : Int)) then
      if b0.length + 1 ≤ 4294967296 then
        if InR .i64 ((↑k7 : Int) + 1) then
          some (Sum.inl ((k7 + 1), (b0 ++ [(↑k7 : Int)])))
        else none
      else none
    else
      some (Sum.inr b0)
def tollwayref08_Differ_L9_H (a_0 : (List Int)) (b_1 : (List Int)) : (Nat × (List Int)) → St := fun (s : (Nat × (List Int))) => S 41 [(0, .lst (fl e_u64 a_0) a_0.length), (1, .lst (fl e_u64 b_1) b_1.length), (6, .vec 0 s.2.length 1), (7, .int .i64 (↑s.1 : Int))] [(bV (fl e_i64 s.2) 3)]
def tollwayref08_Differ_L9_X (a_0 : (List Int)) (b_1 : (List Int)) : (List Int) → AEx := fun o => (.exit 0)
def tollwayref08_Differ_L9_T (a_0 : (List Int)) (b_1 : (List Int)) : (List Int) → List (Nat × AV) := fun o => [(6, .vec 0 o.length 1)]
def tollwayref08_Differ_L9_B (a_0 : (List Int)) (b_1 : (List Int)) : (List Int) → List Blk := fun o => [(bV (fl e_i64 o) 3)]
def tollwayref08_Differ_L9_E (a_0 : (List Int)) (b_1 : (List Int)) (q : (List Int)) : St := S 41 (tollwayref08_Differ_L9_T a_0 b_1 q) (tollwayref08_Differ_L9_B a_0 b_1 q)
theorem tollwayref08_Differ_L9_does (a_0 : (List Int)) (b_1 : (List Int)) {s : (Nat × (List Int))} {r : (List Int)} (h : lp (tollwayref08_Differ_L9_step a_0 b_1) s = some r) : Does Tryz.prog G0 0 (.loop (bodyAt Tryz.prog 40 [1, 0, 1, 0, 1, 0, 1, 0, 0])) (tollwayref08_Differ_L9_H a_0 b_1 s) (tollwayref08_Differ_L9_X a_0 b_1 r) (tollwayref08_Differ_L9_E a_0 b_1 r) := by
  refine Does.lp (H := tollwayref08_Differ_L9_H a_0 b_1) (X := tollwayref08_Differ_L9_X a_0 b_1) (E := tollwayref08_Differ_L9_E a_0 b_1) (fun s s2 h => ?_) (fun s r h => ?_) h
  · obtain ⟨k7, b0⟩ := s
    unfold tollwayref08_Differ_L9_step at h
    try dsimp only at h
    rcases ite_some h with ⟨c13, h⟩ | ⟨c13, h⟩
    · obtain ⟨h14, h⟩ := guard_some h
      obtain ⟨h15, h⟩ := guard_some h
      obtain rfl := oL h
      exact Does.of_viewM 0 400 (cs 5 (oa :: oa :: (.br true) :: (cs 3 ((.op none (.ap 4)) :: (.tr (.eqc 2 (fl e_i64 (b0 ++ [(↑k7 : Int)])))) :: (.tr (.eqt (.t 26) (.vec 2 ((b0 ++ [(↑k7 : Int)]).length) 1))) :: (cs 2 [ow, oc]))))) [2] (by kernel_rfl) (by kernel_rfl) (k2 (decide_eq_true c13) (k2 ((Nat.le_of_ble_eq_true rfl) : 0 + 1 ≤ List.length ([.int .i64 (↑k7 : Int)] : List AV)) (k2 ((fl_length1 (f := e_i64) (fun _ => rfl) _) : List.length ((fl e_i64 b0) : List AV) = b0.length) (k2 (rfl : List.all ([.int .i64 (↑k7 : Int)] : List AV) AV.one = true) (k2 h14 (k2 ((fl_snoc rfl) : (fl e_i64 b0) ++ [.int .i64 (↑k7 : Int)] = (fl e_i64 (b0 ++ [(↑k7 : Int)]))) (k2 ((by simp <;> omega) : (.vec 2 (b0.length + 1) 1 : AV) = .vec 2 ((b0 ++ [(↑k7 : Int)]).length) 1) (ok1 h15))))))))
    · simp at h
  · obtain ⟨k7, b0⟩ := s
    unfold tollwayref08_Differ_L9_step at h
    try dsimp only at h
    rcases ite_some h with ⟨c13, h⟩ | ⟨c13, h⟩
    · obtain ⟨h14, h⟩ := guard_some h
      obtain ⟨h15, h⟩ := guard_some h
      simp at h
    · obtain rfl := oR h
      exact ⟨Does.of_viewM 0 400 (cs 5 [oa, oa, .br false]) [0] (by kernel_rfl) (by kernel_rfl) (ok1 (decide_eq_false c13)), by intro q; cases q⟩
noncomputable def tollwayref08_Differ (a_0 : (List Int)) (b_1 : (List Int)) : Option ((List Int) × Int) :=
  if (↑a_0.length : Int) = (↑b_1.length : Int) then
    if (↑a_0.length : Int) = (0 : Int) then
      some (([] : List Int), 0)
    else
      (tollwayref08_levels a_0).bind fun r3 =>
      (tollwayref08_levels b_1).bind fun r5 =>
      (tollwayref08_below_fuel 64 r3 r5 0 ([] : List Int) 0).bind fun r7 =>
      some (r7.1, r7.2)
  else
    (lp (tollwayref08_Differ_L9_step a_0 b_1) ((0 : Nat), ([] : (List Int)))).bind fun o9 =>
    some (o9, 0)
theorem tollwayref08_Differ_ret (a_0 : (List Int)) (b_1 : (List Int)) (r : ((List Int) × Int)) (h : tollwayref08_Differ a_0 b_1 = some r) : Ret Tryz.prog G0 40 [.lst (fl e_u64 a_0) a_0.length, .lst (fl e_u64 b_1) b_1.length] (.tup [.vec 0 r.1.length 1, .int .i64 r.2]) [(bV (fl e_i64 r.1) 3)] := by
  unfold tollwayref08_Differ at h
  rcases ite_some h with ⟨c1, h⟩ | ⟨c1, h⟩
  · rcases ite_some h with ⟨c2, h⟩ | ⟨c2, h⟩
    · obtain rfl := oI h
      exact Ret.of_view 400 (cs 6 (oa :: (.br false) :: (cs 2 (oa :: (.br true) :: (cs 2 [.tr (.vec (.t 4) 1 3), .tr (.eqc 0 (fl e_i64 ([] : List Int))), .tr (.eqt (.t 4) (.vec 0 (([] : List Int).length) 1))]))))) [0] (by kernel_rfl) (by kernel_rfl) (k2 (not_f (beq_t c1)) (k2 (beq_t c2) (k2 (rfl : [] = (fl e_i64 ([] : List Int))) (ok1 (rfl : (.vec 0 0 1 : AV) = .vec 0 (([] : List Int).length) 1)))))
    · obtain ⟨r3, h4, h⟩ := bind_some h
      obtain ⟨r5, h6, h⟩ := bind_some h
      obtain ⟨r7, h8, h⟩ := bind_some h
      obtain rfl := oI h
      exact Ret.of_view 400 (cs 6 (oa :: (.br false) :: (cs 2 (oa :: (.br false) :: oc :: (.ret none [.any] (.vec 0 r3.length 1) [(bV (fl (e_lst e_u64) r3) 26)]) :: oc :: (.ret none [.any] (.vec 0 r5.length 1) [(bV (fl (e_lst e_u64) r5) 26)]) :: oc :: (.tr (.frz [.t 32] (fl (e_lst e_u64) r3) r3.length)) :: (.tr (.frz [.t 34] (fl (e_lst e_u64) r5) r5.length)) :: oc :: (.spec (fspec 0 [] [.lst (fl (e_lst e_u64) r3) r3.length, .lst (fl (e_lst e_u64) r5) r5.length, .int .i64 0, .agg [.nils, .int .i64 0]] [] (.agg [.vec 0 r7.1.length 1, .int .i64 r7.2]) [(bV (fl e_i64 r7.1) 3)])) :: (cs 8 []))))) [2] (by kernel_rfl) (by kernel_rfl) (k2 (not_f (beq_t c1)) (k2 (beq_f c2) (k2 (tollwayref08_levels_ret a_0 r3 h4) (k2 (tollwayref08_levels_ret b_1 r5 h6) (k2 (⟨rfl, rfl, rfl, (fl_length1 (f := (e_lst e_u64)) (fun _ => rfl) _)⟩ : 0 = 0 ∧ (fl (e_lst e_u64) r3) = (fl (e_lst e_u64) r3) ∧ r3.length = r3.length ∧ List.length ((fl (e_lst e_u64) r3) : List AV) = r3.length) (k2 (⟨rfl, rfl, rfl, (fl_length1 (f := (e_lst e_u64)) (fun _ => rfl) _)⟩ : 1 = 1 ∧ (fl (e_lst e_u64) r5) = (fl (e_lst e_u64) r5) ∧ r5.length = r5.length ∧ List.length ((fl (e_lst e_u64) r5) : List AV) = r5.length) (k2 ((fspec_ok _ (CallsM.nilvec 1 2 3 (tollwayref08_below_fuel_ret 64 r3 r5 0 ([] : List Int) 0 r7 h8))) : SpecOk Tryz.prog G0 64 (fspec 0 [] [.lst (fl (e_lst e_u64) r3) r3.length, .lst (fl (e_lst e_u64) r5) r5.length, .int .i64 0, .agg [.nils, .int .i64 0]] [] (.agg [.vec 0 r7.1.length 1, .int .i64 r7.2]) [(bV (fl e_i64 r7.1) 3)])) (ok1 (⟨rfl, trivial⟩ : (([.lst (fl (e_lst e_u64) r3) r3.length, .lst (fl (e_lst e_u64) r5) r5.length, .int .i64 0, .agg [.nils, .int .i64 0]] : List AV) = [.lst (fl (e_lst e_u64) r3) r3.length, .lst (fl (e_lst e_u64) r5) r5.length, .int .i64 0, .agg [.nils, .int .i64 0]]) ∧ True)))))))))
  · obtain ⟨o9, hl9, h⟩ := bind_some h
    obtain rfl := oI h
    exact Ret.of_view 400 (cs 6 (oa :: (.br true) :: (cs 2 ((.tr (.vec (.t 6) 1 3)) :: (.fcut 0 (.exit 0) [(6, .vec 0 o9.length 1)] [(bV (fl e_i64 o9) 3)] [0] [(0, .any), (1, .any), (6, .vec 0 (([] : (List Int)).length) 1), (7, .int .i64 (↑(0 : Nat) : Int))] [(bV (fl e_i64 ([] : (List Int))) 3)]) :: (cs 3 []))))) [1] (by kernel_rfl) (by kernel_rfl) (k2 (not_t (beq_f c1)) (k2 ((by first | rfl | simp only [List.length_replicate, List.length_set]) : (.vec 0 0 1 : AV) = .vec 0 (([] : (List Int)).length) 1) (k2 (rfl : (.int .i64 0 : AV) = .int .i64 (↑(0 : Nat) : Int)) (k2 (rfl : ((bV [] 3) : Blk) = renB [0] (bV (fl e_i64 ([] : (List Int))) 3)) (ok1 (tollwayref08_Differ_L9_does a_0 b_1 (s := ((0 : Nat), ([] : (List Int)))) (r := o9) hl9))))))
noncomputable def tollwayref50_Locate_L3_step (have_0 : (List Tapi_Charge)) (want_1 : (List Tapi_Charge)) (r1 : (List (List UInt8))) : (Nat × (List Int) × (List Int)) → Option ((Nat × (List Int) × (List Int)) ⊕ ((List Int) × (List Int)))
  | (k8, b0, b1) =>
    if (↑k8 : Int) < (↑r1.length : Int) then
      (r1[k8]?).bind fun x15 =>
      (tollwayref50_leaf have_0 x15).bind fun r17 =>
      if b0.length + 1 ≤ 4294967296 then
        (tollwayref50_leaf want_1 x15).bind fun r20 =>
        if b1.length + 1 ≤ 4294967296 then
          if InR .i64 ((↑k8 : Int) + 1) then
            some (Sum.inl ((k8 + 1), (b0 ++ [r17]), (b1 ++ [r20])))
          else none
        else none
      else none
    else
      some (Sum.inr (b0, b1))
def tollwayref50_Locate_L3_H (have_0 : (List Tapi_Charge)) (want_1 : (List Tapi_Charge)) (r1 : (List (List UInt8))) : (Nat × (List Int) × (List Int)) → St := fun (s : (Nat × (List Int) × (List Int))) => S 66 [(0, .lst (fl Tapi_Charge.enc have_0) have_0.length), (1, .lst (fl Tapi_Charge.enc want_1) want_1.length), (5, .lst (fl e_str r1) r1.length), (6, .vec 0 s.2.1.length 1), (7, .vec 1 s.2.2.length 1), (8, .int .i64 (↑s.1 : Int))] [(bV (fl e_u64 s.2.1) 41), (bV (fl e_u64 s.2.2) 41)]
def tollwayref50_Locate_L3_X (have_0 : (List Tapi_Charge)) (want_1 : (List Tapi_Charge)) (r1 : (List (List UInt8))) : ((List Int) × (List Int)) → AEx := fun o => (.exit 0)
def tollwayref50_Locate_L3_T (have_0 : (List Tapi_Charge)) (want_1 : (List Tapi_Charge)) (r1 : (List (List UInt8))) : ((List Int) × (List Int)) → List (Nat × AV) := fun o => [(0, .lst (fl Tapi_Charge.enc have_0) have_0.length), (1, .lst (fl Tapi_Charge.enc want_1) want_1.length), (5, .lst (fl e_str r1) r1.length), (6, .vec 0 o.1.length 1), (7, .vec 1 o.2.length 1)]
def tollwayref50_Locate_L3_B (have_0 : (List Tapi_Charge)) (want_1 : (List Tapi_Charge)) (r1 : (List (List UInt8))) : ((List Int) × (List Int)) → List Blk := fun o => [(bV (fl e_u64 o.1) 41), (bV (fl e_u64 o.2) 41)]
def tollwayref50_Locate_L3_E (have_0 : (List Tapi_Charge)) (want_1 : (List Tapi_Charge)) (r1 : (List (List UInt8))) (q : ((List Int) × (List Int))) : St := S 66 (tollwayref50_Locate_L3_T have_0 want_1 r1 q) (tollwayref50_Locate_L3_B have_0 want_1 r1 q)
theorem tollwayref50_Locate_L3_does (have_0 : (List Tapi_Charge)) (want_1 : (List Tapi_Charge)) (r1 : (List (List UInt8))) {s : (Nat × (List Int) × (List Int))} {r : ((List Int) × (List Int))} (h : lp (tollwayref50_Locate_L3_step have_0 want_1 r1) s = some r) : Does Tryz.prog G0 0 (.loop (bodyAt Tryz.prog 17 [1, 1, 1, 0, 1, 0, 0])) (tollwayref50_Locate_L3_H have_0 want_1 r1 s) (tollwayref50_Locate_L3_X have_0 want_1 r1 r) (tollwayref50_Locate_L3_E have_0 want_1 r1 r) := by
  refine Does.lp (H := tollwayref50_Locate_L3_H have_0 want_1 r1) (X := tollwayref50_Locate_L3_X have_0 want_1 r1) (E := tollwayref50_Locate_L3_E have_0 want_1 r1) (fun s s2 h => ?_) (fun s r h => ?_) h
  · obtain ⟨k8, b0, b1⟩ := s
    unfold tollwayref50_Locate_L3_step at h
    try dsimp only at h
    rcases ite_some h with ⟨c14, h⟩ | ⟨c14, h⟩
    · obtain ⟨x15, h16, h⟩ := bind_some h
      obtain ⟨r17, h18, h⟩ := bind_some h
      obtain ⟨h19, h⟩ := guard_some h
      obtain ⟨r20, h21, h⟩ := bind_some h
      obtain ⟨h22, h⟩ := guard_some h
      obtain ⟨h23, h⟩ := guard_some h
      obtain rfl := oL h
      exact Does.of_viewM 0 400 (cs 3 (oa :: (.br true) :: (cs 4 ((.op none (.i k8)) :: (.op none (.v [.str x15])) :: (.ret none [.any, .any] (.int .u64 r17) []) :: oc :: (.op none (.ap 4)) :: (.tr (.eqc 3 (fl e_u64 (b0 ++ [r17])))) :: (.tr (.eqt (.t 30) (.vec 3 ((b0 ++ [r17]).length) 1))) :: (cs 5 ((.op none (.i k8)) :: (.op none (.v [.str x15])) :: (.ret none [.any, .any] (.int .u64 r20) []) :: oc :: (.op none (.ap 4)) :: (.tr (.eqc 5 (fl e_u64 (b1 ++ [r20])))) :: (.tr (.eqt (.t 39) (.vec 5 ((b1 ++ [r20]).length) 1))) :: (cs 2 [ow, oc]))))))) [3, 5] (by kernel_rfl) (by kernel_rfl) (k2 (decide_eq_true c14) (k2 (ir h16) (k2 (fl_ne (f := e_str) (z := 0) (fun _ => rfl) h16) (k2 (s_str h16) (k2 (tollwayref50_leaf_ret have_0 x15 r17 h18) (k2 ((Nat.le_of_ble_eq_true rfl) : 0 + 1 ≤ List.length ([.int .u64 r17] : List AV)) (k2 ((fl_length1 (f := e_u64) (fun _ => rfl) _) : List.length ((fl e_u64 b0) : List AV) = b0.length) (k2 (rfl : List.all ([.int .u64 r17] : List AV) AV.one = true) (k2 h19 (k2 ((fl_snoc rfl) : (fl e_u64 b0) ++ [.int .u64 r17] = (fl e_u64 (b0 ++ [r17]))) (k2 ((by simp <;> omega) : (.vec 3 (b0.length + 1) 1 : AV) = .vec 3 ((b0 ++ [r17]).length) 1) (k2 (ir h16) (k2 (fl_ne (f := e_str) (z := 0) (fun _ => rfl) h16) (k2 (s_str h16) (k2 (tollwayref50_leaf_ret want_1 x15 r20 h21) (k2 ((Nat.le_of_ble_eq_true rfl) : 0 + 1 ≤ List.length ([.int .u64 r20] : List AV)) (k2 ((fl_length1 (f := e_u64) (fun _ => rfl) _) : List.length ((fl e_u64 b1) : List AV) = b1.length) (k2 (rfl : List.all ([.int .u64 r20] : List AV) AV.one = true) (k2 h22 (k2 ((fl_snoc rfl) : (fl e_u64 b1) ++ [.int .u64 r20] = (fl e_u64 (b1 ++ [r20]))) (k2 ((by simp <;> omega) : (.vec 5 (b1.length + 1) 1 : AV) = .vec 5 ((b1 ++ [r20]).length) 1) (ok1 h23))))))))))))))))))))))
    · simp at h
  · obtain ⟨k8, b0, b1⟩ := s
    unfold tollwayref50_Locate_L3_step at h
    try dsimp only at h
    rcases ite_some h with ⟨c14, h⟩ | ⟨c14, h⟩
    · obtain ⟨x15, h16, h⟩ := bind_some h
      obtain ⟨r17, h18, h⟩ := bind_some h
      obtain ⟨h19, h⟩ := guard_some h
      obtain ⟨r20, h21, h⟩ := bind_some h
      obtain ⟨h22, h⟩ := guard_some h
      obtain ⟨h23, h⟩ := guard_some h
      simp at h
    · obtain rfl := oR h
      exact ⟨Does.of_viewM 0 400 (cs 3 [oa, .br false]) [0, 1] (by kernel_rfl) (by kernel_rfl) (ok1 (decide_eq_false c14)), by intro q; cases q⟩
noncomputable def tollwayref50_Locate_L26_step (have_0 : (List Tapi_Charge)) (want_1 : (List Tapi_Charge)) (r1 : (List (List UInt8))) (r24 : ((List Int) × Int)) : (Nat × (List Tapi_Finding)) → Option ((Nat × (List Tapi_Finding)) ⊕ (List Tapi_Finding))
  | (k12, b5) =>
    if (↑k12 : Int) < (↑r24.1.length : Int) then
      (r24.1[k12]?).bind fun x38 =>
      if (0 : Int) ≤ x38 then
        (r1[x38.toNat]?).bind fun x41 =>
        (tollwayref50_find have_0 want_1 x41).bind fun r43 =>
        if b5.length + 1 ≤ 4294967296 then
          if InR .i64 ((↑k12 : Int) + 1) then
            some (Sum.inl ((k12 + 1), (b5 ++ [r43])))
          else none
        else none
      else none
    else
      some (Sum.inr b5)
def tollwayref50_Locate_L26_H (have_0 : (List Tapi_Charge)) (want_1 : (List Tapi_Charge)) (r1 : (List (List UInt8))) (r24 : ((List Int) × Int)) : (Nat × (List Tapi_Finding)) → St := fun (s : (Nat × (List Tapi_Finding))) => S 66 [(0, .lst (fl Tapi_Charge.enc have_0) have_0.length), (1, .lst (fl Tapi_Charge.enc want_1) want_1.length), (5, .lst (fl e_str r1) r1.length), (9, .vec 0 r24.1.length 1), (11, .vec 1 s.2.length 4), (12, .int .i64 (↑s.1 : Int))] [(bV (fl e_i64 r24.1) 3), (bV (fl Tapi_Finding.enc s.2) 39)]
def tollwayref50_Locate_L26_X (have_0 : (List Tapi_Charge)) (want_1 : (List Tapi_Charge)) (r1 : (List (List UInt8))) (r24 : ((List Int) × Int)) : (List Tapi_Finding) → AEx := fun o => (.exit 2)
def tollwayref50_Locate_L26_T (have_0 : (List Tapi_Charge)) (want_1 : (List Tapi_Charge)) (r1 : (List (List UInt8))) (r24 : ((List Int) × Int)) : (List Tapi_Finding) → List (Nat × AV) := fun o => [(11, .vec 1 o.length 4)]
def tollwayref50_Locate_L26_B (have_0 : (List Tapi_Charge)) (want_1 : (List Tapi_Charge)) (r1 : (List (List UInt8))) (r24 : ((List Int) × Int)) : (List Tapi_Finding) → List Blk := fun o => [(bV (fl e_i64 r24.1) 3), (bV (fl Tapi_Finding.enc o) 39)]
def tollwayref50_Locate_L26_E (have_0 : (List Tapi_Charge)) (want_1 : (List Tapi_Charge)) (r1 : (List (List UInt8))) (r24 : ((List Int) × Int)) (q : (List Tapi_Finding)) : St := S 66 (tollwayref50_Locate_L26_T have_0 want_1 r1 r24 q) (tollwayref50_Locate_L26_B have_0 want_1 r1 r24 q)
theorem tollwayref50_Locate_L26_does (have_0 : (List Tapi_Charge)) (want_1 : (List Tapi_Charge)) (r1 : (List (List UInt8))) (r24 : ((List Int) × Int)) {s : (Nat × (List Tapi_Finding))} {r : (List Tapi_Finding)} (h : lp (tollwayref50_Locate_L26_step have_0 want_1 r1 r24) s = some r) : Does Tryz.prog G0 1 (.loop (bodyAt Tryz.prog 17 [1, 1, 1, 1, 1, 1, 0, 1, 0, 0])) (tollwayref50_Locate_L26_H have_0 want_1 r1 r24 s) (tollwayref50_Locate_L26_X have_0 want_1 r1 r24 r) (tollwayref50_Locate_L26_E have_0 want_1 r1 r24 r) := by
  refine Does.lp (H := tollwayref50_Locate_L26_H have_0 want_1 r1 r24) (X := tollwayref50_Locate_L26_X have_0 want_1 r1 r24) (E := tollwayref50_Locate_L26_E have_0 want_1 r1 r24) (fun s s2 h => ?_) (fun s r h => ?_) h
  · obtain ⟨k12, b5⟩ := s
    unfold tollwayref50_Locate_L26_step at h
    try dsimp only at h
    rcases ite_some h with ⟨c37, h⟩ | ⟨c37, h⟩
    · obtain ⟨x38, h39, h⟩ := bind_some h
      obtain ⟨h40, h⟩ := guard_some h
      obtain ⟨x41, h42, h⟩ := bind_some h
      obtain ⟨r43, h44, h⟩ := bind_some h
      obtain ⟨h45, h⟩ := guard_some h
      obtain ⟨h46, h⟩ := guard_some h
      obtain rfl := oL h
      exact Does.of_viewM 1 400 (cs 3 (oa :: (.br true) :: (cs 6 ((.op none (.i k12)) :: (vI x38) :: (.op none (.i x38.toNat)) :: (.op none (.v [.str x41])) :: (.ret none [.any, .any, .any] (.agg (Tapi_Finding.enc r43)) []) :: oc :: (.op none (.ap 4)) :: (.tr (.eqc 3 (fl Tapi_Finding.enc (b5 ++ [r43])))) :: (.tr (.eqt (.t 64) (.vec 3 ((b5 ++ [r43]).length) 4))) :: (cs 2 [ow, oc]))))) [0, 3] (by kernel_rfl) (by kernel_rfl) (k2 (decide_eq_true c37) (k2 (ir h39) (k2 (s_i64 h39) (k2 (ix h40 h42) (k2 (fl_ne (f := e_str) (z := 0) (fun _ => rfl) h42) (k2 (s_str h42) (k2 (tollwayref50_find_ret have_0 want_1 x41 r43 h44) (k2 ((Nat.le_of_ble_eq_true rfl) : 0 + 4 ≤ List.length ([.str r43.Key, .int .i64 r43.Day, .int .i64 r43.Have, .int .i64 r43.Want] : List AV)) (k2 ((fl_length (f := Tapi_Finding.enc) (z := 4) (fun _ => rfl) _) : List.length ((fl Tapi_Finding.enc b5) : List AV) = (b5.length * 4)) (k2 (rfl : List.all ([.str r43.Key, .int .i64 r43.Day, .int .i64 r43.Have, .int .i64 r43.Want] : List AV) AV.one = true) (k2 h45 (k2 ((fl_snoc rfl) : (fl Tapi_Finding.enc b5) ++ [.str r43.Key, .int .i64 r43.Day, .int .i64 r43.Have, .int .i64 r43.Want] = (fl Tapi_Finding.enc (b5 ++ [r43]))) (k2 ((by simp <;> omega) : (.vec 3 (b5.length + 1) 4 : AV) = .vec 3 ((b5 ++ [r43]).length) 4) (ok1 h46))))))))))))))
    · simp at h
  · obtain ⟨k12, b5⟩ := s
    unfold tollwayref50_Locate_L26_step at h
    try dsimp only at h
    rcases ite_some h with ⟨c37, h⟩ | ⟨c37, h⟩
    · obtain ⟨x38, h39, h⟩ := bind_some h
      obtain ⟨h40, h⟩ := guard_some h
      obtain ⟨x41, h42, h⟩ := bind_some h
      obtain ⟨r43, h44, h⟩ := bind_some h
      obtain ⟨h45, h⟩ := guard_some h
      obtain ⟨h46, h⟩ := guard_some h
      simp at h
    · obtain rfl := oR h
      exact ⟨Does.of_viewM 1 400 (cs 3 [oa, .br false]) [0, 1] (by kernel_rfl) (by kernel_rfl) (ok1 (decide_eq_false c37)), by intro q; cases q⟩
noncomputable def tollwayref50_Locate (have_0 : (List Tapi_Charge)) (want_1 : (List Tapi_Charge)) : Option (List Tapi_Finding) :=
  (tollwayref50_Keys have_0 want_1).bind fun r1 =>
  (lp (tollwayref50_Locate_L3_step have_0 want_1 r1) ((0 : Nat), ([] : (List Int)), ([] : (List Int)))).bind fun o3 =>
  (tollwayref08_Differ o3.1 o3.2).bind fun r24 =>
  (lp (tollwayref50_Locate_L26_step have_0 want_1 r1 r24) ((0 : Nat), ([] : (List Tapi_Finding)))).bind fun o26 =>
  some o26
theorem tollwayref50_Locate_ret (have_0 : (List Tapi_Charge)) (want_1 : (List Tapi_Charge)) (r : (List Tapi_Finding)) (h : tollwayref50_Locate have_0 want_1 = some r) : Ret Tryz.prog G0 17 [.lst (fl Tapi_Charge.enc have_0) have_0.length, .lst (fl Tapi_Charge.enc want_1) want_1.length] (.vec 0 r.length 4) [(bV (fl Tapi_Finding.enc r) 39)] := by
  unfold tollwayref50_Locate at h
  obtain ⟨r1, h2, h⟩ := bind_some h
  obtain ⟨o3, hl3, h⟩ := bind_some h
  obtain ⟨r24, h25, h⟩ := bind_some h
  obtain ⟨o26, hl26, h⟩ := bind_some h
  obtain rfl := oI h
  exact Ret.of_view 400 (cs 3 ((.ret none [.any, .any] (.lst (fl e_str r1) r1.length) []) :: (cs 4 ((.tr (.vec (.t 6) 1 41)) :: (.tr (.vec (.t 7) 1 41)) :: (.fcut 0 (.exit 0) (tollwayref50_Locate_L3_T have_0 want_1 r1 o3) (tollwayref50_Locate_L3_B have_0 want_1 r1 o3) [0, 1] [(0, .any), (1, .any), (5, .any), (6, .vec 0 (([] : (List Int)).length) 1), (7, .vec 1 (([] : (List Int)).length) 1), (8, .int .i64 (↑(0 : Nat) : Int))] [(bV (fl e_u64 ([] : (List Int))) 41), (bV (fl e_u64 ([] : (List Int))) 41)]) :: (cs 2 ((.ret none [.lst (fl e_u64 o3.1) o3.1.length, .lst (fl e_u64 o3.2) o3.2.length] (.tup [.vec 0 r24.1.length 1, .int .i64 r24.2]) [(bV (fl e_i64 r24.1) 3)]) :: (cs 7 ((.tr (.vec (.t 11) 4 39)) :: (.fcut 1 (.exit 2) [(11, .vec 1 o26.length 4)] (tollwayref50_Locate_L26_B have_0 want_1 r1 r24 o26) [4, 5] [(0, .any), (1, .any), (5, .any), (9, .vec 0 r24.1.length 1), (11, .vec 1 (([] : (List Tapi_Finding)).length) 4), (12, .int .i64 (↑(0 : Nat) : Int))] [bS, (bV (fl Tapi_Finding.enc ([] : (List Tapi_Finding))) 39)]) :: (cs 2 []))))))))) [7] (by kernel_rfl) (by kernel_rfl) (k2 (tollwayref50_Keys_ret have_0 want_1 r1 h2) (k2 ((by first | rfl | simp only [List.length_replicate, List.length_set]) : (.vec 0 0 1 : AV) = .vec 0 (([] : (List Int)).length) 1) (k2 ((by first | rfl | simp only [List.length_replicate, List.length_set]) : (.vec 1 0 1 : AV) = .vec 1 (([] : (List Int)).length) 1) (k2 (rfl : (.int .i64 0 : AV) = .int .i64 (↑(0 : Nat) : Int)) (k2 (rfl : ((bV [] 41) : Blk) = renB [0, 1] (bV (fl e_u64 ([] : (List Int))) 41)) (k2 (rfl : ((bV [] 41) : Blk) = renB [0, 1] (bV (fl e_u64 ([] : (List Int))) 41)) (k2 (tollwayref50_Locate_L3_does have_0 want_1 r1 (s := ((0 : Nat), ([] : (List Int)), ([] : (List Int)))) (r := o3) hl3) (k2 (⟨rfl, rfl, (fl_length1 (f := e_u64) (fun _ => rfl) _)⟩ : (fl e_u64 o3.1) = (fl e_u64 o3.1) ∧ o3.1.length = o3.1.length ∧ List.length ((fl e_u64 o3.1) : List AV) = o3.1.length) (k2 (⟨rfl, rfl, (fl_length1 (f := e_u64) (fun _ => rfl) _)⟩ : (fl e_u64 o3.2) = (fl e_u64 o3.2) ∧ o3.2.length = o3.2.length ∧ List.length ((fl e_u64 o3.2) : List AV) = o3.2.length) (k2 (⟨(fl_dat (f := e_i64) (fun _ => rfl)), trivial⟩ : datBlks [(bV (fl e_i64 r24.1) 3)]) (k2 (tollwayref08_Differ_ret o3.1 o3.2 r24 h25) (k2 ((by first | rfl | simp only [List.length_replicate, List.length_set]) : (.vec 4 r24.1.length 1 : AV) = .vec 4 r24.1.length 1) (k2 ((by first | rfl | simp only [List.length_replicate, List.length_set]) : (.vec 5 0 4 : AV) = .vec 5 (([] : (List Tapi_Finding)).length) 4) (k2 (rfl : (.int .i64 0 : AV) = .int .i64 (↑(0 : Nat) : Int)) (k2 (rfl : ((bV [] 39) : Blk) = renB [4, 5] (bV (fl Tapi_Finding.enc ([] : (List Tapi_Finding))) 39)) (ok1 (tollwayref50_Locate_L26_does have_0 want_1 r1 r24 (s := ((0 : Nat), ([] : (List Tapi_Finding)))) (r := o26) hl26)))))))))))))))))
end Go.Proofs.YtpadimnchmghpaaGreatDoor.Av
