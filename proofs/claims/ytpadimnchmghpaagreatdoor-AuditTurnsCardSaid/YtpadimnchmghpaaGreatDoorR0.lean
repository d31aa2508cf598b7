import Derived.Test.YtpadimnchmghpaaGreatDoorAvZ
import Derived.Test.YtpadimnchmghpaaGreatDoorProg
import Derived.Tactics
import Derived.Test.YtpadimnchmghpaaGreatDoorN0
import Derived.Test.YtpadimnchmghpaaGreatDoorAvSh
open Prod (fst)
open Int (tdiv tmod)
set_option linter.unusedVariables false
set_option linter.unusedSimpArgs false
set_option maxHeartbeats 4000000
set_option maxRecDepth 100000
namespace Go.Proofs.YtpadimnchmghpaaGreatDoor.Av
open Go Go.Proofs
noncomputable def f02PutInt_L9_step  : (Int × (List UInt8)) → Option ((Int × (List UInt8)) ⊕ (Int × (List UInt8)))
  | (v6, b0) =>
    if v6 ≥ (128 : Int) then
      if InR .u8 (tmod v6 128) then
        if InR .u8 ((tmod v6 128) + 128) then
          if b0.length + 1 ≤ 4294967296 then
            if InR .u64 (tdiv v6 128) then
              some (Sum.inl ((tdiv v6 128), (b0 ++ [(UInt8.ofNat (Int.toNat ((tmod v6 128) + 128)))])))
            else none
          else none
        else none
      else none
    else
      some (Sum.inr (v6, b0))
noncomputable def f08Hash_L1_step (b_0 : (List UInt8)) : (Int × Nat) → Option ((Int × Nat) ⊕ Int)
  | (v3, k4) =>
    if (↑k4 : Int) < (↑b_0.length : Int) then
      (b_0[k4]?).bind fun x10 =>
      if InR .u64 ((x10.toNat : Int)) then
        (some (IntKind.wrap .u64 ((BitVec.ofInt (IntKind.bits .u64) v3 ^^^ BitVec.ofInt (IntKind.bits .u64) (x10.toNat : Int)).toNat : Int))).bind fun y13 =>
        if InR .i64 ((↑k4 : Int) + 1) then
          some (Sum.inl ((IntKind.wrap .u64 (y13 * 1099511628211)), (k4 + 1)))
        else none
      else none
    else
      some (Sum.inr v3)
def f08Hash_L1_H (b_0 : (List UInt8)) : (Int × Nat) → St := fun (s : (Int × Nat)) => S 20 [(0, .lst (u8s b_0) b_0.length), (3, .int .u64 s.1), (4, .int .i64 (↑s.2 : Int))] []
def f08Hash_L1_X (b_0 : (List UInt8)) : Int → AEx := fun o => (.exit 0)
def f08Hash_L1_T (b_0 : (List UInt8)) : Int → List (Nat × AV) := fun o => [(3, .int .u64 o)]
def f08Hash_L1_B (b_0 : (List UInt8)) : Int → List Blk := fun o => []
def f08Hash_L1_E (b_0 : (List UInt8)) (q : Int) : St := S 20 (f08Hash_L1_T b_0 q) (f08Hash_L1_B b_0 q)
theorem f08Hash_L1_does (b_0 : (List UInt8)) {s : (Int × Nat)} {r : Int} (h : lp (f08Hash_L1_step b_0) s = some r) : Does Tryz.prog G0 0 (.loop (bodyAt Tryz.prog 24 [1, 1, 0, 1, 0, 0])) (f08Hash_L1_H b_0 s) (f08Hash_L1_X b_0 r) (f08Hash_L1_E b_0 r) := by
  refine Does.lp (H := f08Hash_L1_H b_0) (X := f08Hash_L1_X b_0) (E := f08Hash_L1_E b_0) (fun s s2 h => ?_) (fun s r h => ?_) h
  · obtain ⟨v3, k4⟩ := s
    unfold f08Hash_L1_step at h
    try dsimp only at h
    rcases itS h with ⟨c9, h⟩ | ⟨c9, h⟩
    · obtain ⟨x10, h11, h⟩ := bnS h
      obtain ⟨h12, h⟩ := gdS h
      obtain ⟨y13, h14, h⟩ := bnS h
      obtain ⟨h15, h⟩ := gdS h
      obtain rfl := oL h
      exact Does.of_viewM 0 400 (cs 3 (oa :: (.br true) :: (cs 3 ((.op none (.i k4)) :: (.op none (.v [.int .u8 (x10.toNat : Int)])) :: ow :: oa :: (.tr (.eqt (.t 17) (.int .u64 y13))) :: oa :: (cs 2 [ow, oc]))))) [] (by kernel_rfl) (by kernel_rfl) (k2 (decide_eq_true c9) (k2 (ir h11) (k2 ((u8s_ne h11) : (u8s b_0) ≠ []) (k2 ((u8s_sub1 h11) : sub (u8s b_0) k4 1 = [.int .u8 (x10.toNat : Int)]) (k2 h12 (k2 ((congrArg _ (Option.some.inj h14)) : (.int .u64 (IntKind.wrap .u64 ((BitVec.ofInt (IntKind.bits .u64) v3 ^^^ BitVec.ofInt (IntKind.bits .u64) (x10.toNat : Int)).toNat : Int)) : AV) = .int .u64 y13) (ok1 h15)))))))
    · simp at h
  · obtain ⟨v3, k4⟩ := s
    unfold f08Hash_L1_step at h
    try dsimp only at h
    rcases itS h with ⟨c9, h⟩ | ⟨c9, h⟩
    · obtain ⟨x10, h11, h⟩ := bnS h
      obtain ⟨h12, h⟩ := gdS h
      obtain ⟨y13, h14, h⟩ := bnS h
      obtain ⟨h15, h⟩ := gdS h
      simp at h
    · obtain rfl := oR h
      exact ⟨Does.of_viewM 0 400 (cs 3 [oa, .br false]) [] (by kernel_rfl) (by kernel_rfl) (ok1 (decide_eq_false c9)), by intro q; cases q⟩
noncomputable def f08Hash (b_0 : (List UInt8)) : Option Int :=
  (lp (f08Hash_L1_step b_0) ((14695981039346656037 : Int), (0 : Nat))).bind fun o1 =>
  some o1
theorem f08Hash_ret (b_0 : (List UInt8)) (r : Int) (h : f08Hash b_0 = some r) : Ret Tryz.prog G0 24 [.lst (u8s b_0) b_0.length] (.int .u64 r) [] := by
  unfold f08Hash at h
  obtain ⟨o1, hl1, h⟩ := bnS h
  obtain rfl := oI h
  exact Ret.of_view 400 (cs 3 ((.fcut 0 (.exit 0) [(3, .int .u64 o1)] [] [] [(0, .any), (3, .int .u64 (14695981039346656037 : Int)), (4, .int .i64 (↑(0 : Nat) : Int))] []) :: (cs 2 []))) [] (by kernel_rfl) (by kernel_rfl) (k2 (rfl : (.int .u64 14695981039346656037 : AV) = .int .u64 (14695981039346656037 : Int)) (k2 (rfl : (.int .i64 0 : AV) = .int .i64 (↑(0 : Nat) : Int)) (ok1 (f08Hash_L1_does b_0 (s := ((14695981039346656037 : Int), (0 : Nat))) (r := o1) hl1))))
end Go.Proofs.YtpadimnchmghpaaGreatDoor.Av
