import Derived.Test.YtpadimnchmghpaaGreatDoorN0
import Derived.Test.YtpadimnchmghpaaGreatDoorAvSh
open Prod (fst)
open Int (tdiv tmod)
set_option maxHeartbeats 4000000
set_option maxRecDepth 100000
set_option linter.unusedVariables false
set_option linter.unusedSimpArgs false
namespace Go.Proofs.YtpadimnchmghpaaGreatDoor.Av
noncomputable section
open Go Go.Proofs
def f02PutInt_L9_step  : (Int × (List UInt8)) → Option ((Int × (List UInt8)) ⊕ (Int × (List UInt8)))
 | (v6, b0) =>
  if v6 ≥ (128 : Int) then
   if InR .u8 (tmod v6 128) then
    if InR .u8 ((tmod v6 128) + 128) then
     if b0.length + 1 ≤ 4294967296 then
      if InR .u64 (tdiv v6 128) then
       some (Sum.inl ((tdiv v6 128), (b0 ++ [(UInt8.ofNat (Int.toNat ((tmod v6 128) + 128)))])))
      else none
     else none
    else none
   else none
  else
   some (Sum.inr (v6, b0))
def f08Hash_L1_step (b_0 : (List UInt8)) : (Int × Nat) → Option ((Int × Nat) ⊕ Int)
 | (v3, k4) =>
  if (↑k4 : Int) < (↑b_0.length : Int) then
   (b_0[k4]?).bind fun x10 =>
   if InR .u64 ((x10.toNat : Int)) then
    (some (IntKind.wrap .u64 ((BitVec.ofInt (IntKind.bits .u64) v3 ^^^ BitVec.ofInt (IntKind.bits .u64) (x10.toNat : Int)).toNat : Int))).bind fun y13 =>
    if InR .i64 ((↑k4 : Int) + 1) then
     some (Sum.inl ((IntKind.wrap .u64 (y13 * 1099511628211)), (k4 + 1)))
    else none
   else none
  else
   some (Sum.inr v3)
def f08Hash_L1_H (b_0 : (List UInt8)) : (Int × Nat) → St := fun (s : (Int × Nat)) => S 20 [(0, .lst (u8s b_0) b_0.length), (3, .int .u64 s.1), (4, .int .i64 (↑s.2 : Int))] []
def f08Hash_L1_X (b_0 : (List UInt8)) : Int → AEx := fun o => (.exit 0)
def f08Hash_L1_T (b_0 : (List UInt8)) : Int → List (Nat × AV) := fun o => [(3, .int .u64 o)]
def f08Hash_L1_B (b_0 : (List UInt8)) : Int → List Blk := fun o => []
def f08Hash_L1_E (b_0 : (List UInt8)) (q : Int) : St := S 20 (f08Hash_L1_T b_0 q) (f08Hash_L1_B b_0 q)
theorem f08Hash_L1_does (b_0 : (List UInt8)) {s : (Int × Nat)} {r : Int} (h : lp (f08Hash_L1_step b_0) s = some r) : Does Tryz.prog G0 0 (.loop (bodyAt Tryz.prog 24 [1, 1, 0, 1, 0, 0])) (f08Hash_L1_H b_0 s) (f08Hash_L1_X b_0 r) (f08Hash_L1_E b_0 r) := by
 refine Does.lp (H := f08Hash_L1_H b_0) (X := f08Hash_L1_X b_0) (E := f08Hash_L1_E b_0) (fun s s2 h => ?_) (fun s r h => ?_) h
 ·obtain ⟨v3, k4⟩ := s
  unfold f08Hash_L1_step at h
  try dsimp only at h
  rcases itS h with ⟨c9, h⟩ | ⟨c9, h⟩
  ·obtain ⟨x10, h11, h⟩ := bnS h
   obtain ⟨h12, h⟩ := gdS h
   obtain ⟨y13, h14, h⟩ := bnS h
   obtain ⟨h15, h⟩ := gdS h
   obtain rfl := oL h
   exact Does.of_viewM 0 400 (cs 3 (oa :: bt :: (cs 3 ((.op none (.i k4)) :: (.op none (.v [.int .u8 (x10.toNat : Int)])) :: ow :: oa :: (.tr (.eqt (.t 17) (.int .u64 y13))) :: oa :: (cs 2 [ow, oc]))))) [] (by kernel_rfl) (by kernel_rfl) (k2 (dT c9) (k2 (ir h11) (k2 ((u8s_ne h11) : (u8s b_0) ≠ []) (k2 ((u8s_sub1 h11) : sub (u8s b_0) k4 1 = [.int .u8 (x10.toNat : Int)]) (k2 h12 (k2 ((congrArg _ (Option.some.inj h14)) : (.int .u64 (IntKind.wrap .u64 ((BitVec.ofInt (IntKind.bits .u64) v3 ^^^ BitVec.ofInt (IntKind.bits .u64) (x10.toNat : Int)).toNat : Int)) : AV) = .int .u64 y13) (ok1 h15)))))))
  ·simp at h
 ·obtain ⟨v3, k4⟩ := s
  unfold f08Hash_L1_step at h
  try dsimp only at h
  rcases itS h with ⟨c9, h⟩ | ⟨c9, h⟩
  ·obtain ⟨x10, h11, h⟩ := bnS h
   obtain ⟨h12, h⟩ := gdS h
   obtain ⟨y13, h14, h⟩ := bnS h
   obtain ⟨h15, h⟩ := gdS h
   simp at h
  ·obtain rfl := oR h
   exact ⟨Does.of_viewM 0 400 (cs 3 [oa, .br false]) [] (by kernel_rfl) (by kernel_rfl) (ok1 (dF c9)), by intro q; cases q⟩
def f08Hash (b_0 : (List UInt8)) : Option Int :=
 (lp (f08Hash_L1_step b_0) ((14695981039346656037 : Int), (0 : Nat))).bind fun o1 =>
 some o1
theorem f08Hash_ret (b_0 : (List UInt8)) (r : Int) (h : f08Hash b_0 = some r) : Ret Tryz.prog G0 24 [.lst (u8s b_0) b_0.length] (.int .u64 r) [] := by
 unfold f08Hash at h
 obtain ⟨o1, hl1, h⟩ := bnS h
 obtain rfl := oI h
 exact Ret.of_view 400 (cs 3 ((.fcut 0 (.exit 0) [(3, .int .u64 o1)] [] [] [(0, .any), (3, .int .u64 (14695981039346656037 : Int)), (4, jI (↑(0 : Nat) : Int))] []) :: (cs 2 []))) [] (by kernel_rfl) (by kernel_rfl) (k2 (rfl : (.int .u64 14695981039346656037 : AV) = .int .u64 (14695981039346656037 : Int)) (k2 (rfl : (jI 0 : AV) = jI (↑(0 : Nat) : Int)) (ok1 (f08Hash_L1_does b_0 (s := ((14695981039346656037 : Int), (0 : Nat))) (r := o1) hl1))))
def f50Of_L1_step (l_0 : (List TC)) (key_1 : (List UInt8)) : Nat → Option (Nat ⊕ (((List UInt8) × (List UInt8) × (List UInt8) × Int × Int × (List TL) × Int) ⊕ Unit)) := fun k6 =>
 if (↑k6 : Int) < (↑l_0.length : Int) then
  (l_0[k6]?).bind fun x8 =>
  if x8.Key = key_1 then
   some (Sum.inr (Sum.inl (x8.Key, x8.Vehicle, x8.System, x8.Class, x8.Time, x8.Lines, x8.Cents)))
  else
   if InR .i64 ((↑k6 : Int) + 1) then
    some (Sum.inl (k6 + 1))
   else none
 else
  some (Sum.inr (Sum.inr (())))
def f50Of_L1_H (l_0 : (List TC)) (key_1 : (List UInt8)) : Nat → St := fun (s : Nat) => S 25 [(0, .lst (fl TC.enc l_0) l_0.length), (1, .str key_1), (4, .ptr 0 0), (6, .int .i64 (↑s : Int))] [(bT [.str [], .str [], .str [], .int .i64 0, .int .i64 0, .nils, .int .i64 0] 35)]
def f50Of_L1_X (l_0 : (List TC)) (key_1 : (List UInt8)) : (((List UInt8) × (List UInt8) × (List UInt8) × Int × Int × (List TL) × Int) ⊕ Unit) → AEx := fun q => match q with | Sum.inl o => .ret | Sum.inr (o) => (.exit 0)
def f50Of_L1_T (l_0 : (List TC)) (key_1 : (List UInt8)) : (((List UInt8) × (List UInt8) × (List UInt8) × Int × Int × (List TL) × Int) ⊕ Unit) → List (Nat × AV) := fun q => match q with | Sum.inl o => [(4, .ptr 0 0), (5, .bool true)] | Sum.inr (o) => [(4, .ptr 0 0)]
def f50Of_L1_B (l_0 : (List TC)) (key_1 : (List UInt8)) : (((List UInt8) × (List UInt8) × (List UInt8) × Int × Int × (List TL) × Int) ⊕ Unit) → List Blk := fun q => match q with | Sum.inl o => [(bT [.str o.1, .str o.2.1, .str o.2.2.1, .int .i64 o.2.2.2.1, .int .i64 o.2.2.2.2.1, .lst (fl TL.enc o.2.2.2.2.2.1) o.2.2.2.2.2.1.length, .int .i64 o.2.2.2.2.2.2] 35)] | Sum.inr (o) => [(bT [.str [], .str [], .str [], .int .i64 0, .int .i64 0, .nils, .int .i64 0] 35)]
def f50Of_L1_E (l_0 : (List TC)) (key_1 : (List UInt8)) (q : ((List UInt8) × (List UInt8) × (List UInt8) × Int × Int × (List TL) × Int) ⊕ Unit) : St := S 25 (f50Of_L1_T l_0 key_1 q) (f50Of_L1_B l_0 key_1 q)
theorem f50Of_L1_does (l_0 : (List TC)) (key_1 : (List UInt8)) {s : Nat} {r : ((List UInt8) × (List UInt8) × (List UInt8) × Int × Int × (List TL) × Int) ⊕ Unit} (h : lp (f50Of_L1_step l_0 key_1) s = some r) : Does Tryz.prog G0 1 (.loop (bodyAt Tryz.prog 22 [1, 0, 1, 0, 0])) (f50Of_L1_H l_0 key_1 s) (f50Of_L1_X l_0 key_1 r) (f50Of_L1_E l_0 key_1 r) := by
 refine Does.lp (H := f50Of_L1_H l_0 key_1) (X := f50Of_L1_X l_0 key_1) (E := f50Of_L1_E l_0 key_1) (fun s s2 h => ?_) (fun s r h => ?_) h
 ·revert h; revert s; intro k6 h
  unfold f50Of_L1_step at h
  try dsimp only at h
  rcases itS h with ⟨c7, h⟩ | ⟨c7, h⟩
  ·obtain ⟨x8, h9, h⟩ := bnS h
   rcases itS h with ⟨c10, h⟩ | ⟨c10, h⟩
   ·simp at h
   ·obtain ⟨h11, h⟩ := gdS h
    obtain rfl := oL h
    exact Does.of_viewM 1 400 (cs 3 (oa :: bt :: (cs 2 [.op none (.i k6), oc, .op none (.v [.str x8.Key]), oc, oa, .br false, oc, ow, oc]))) [0] (by kernel_rfl) (by kernel_rfl) (k2 (dT c7) (k2 (ir h9) (k2 (fl_ne (f := TC.enc) (z := 6) (fun _ => rfl) h9) (k2 (fl_sub (f := TC.enc) (z := 7) (j := k6) (a := 0) (n := 1) (fun _ => rfl) h9 (by decide) rfl) (k2 (beq_f c10) (ok1 h11))))))
  ·simp at h
 ·revert h; revert s; intro k6 h
  unfold f50Of_L1_step at h
  try dsimp only at h
  let f48 : List CH := (cs 3 [oa])
  rcases itS h with ⟨c7, h⟩ | ⟨c7, h⟩
  ·obtain ⟨x8, h9, h⟩ := bnS h
   rcases itS h with ⟨c10, h⟩ | ⟨c10, h⟩
   ·obtain rfl := oR h
    exact ⟨Does.of_viewM 1 400 (f48 ++ (bt :: (cs 2 ((.op none (.i k6)) :: oc :: (.op none (.v [.str x8.Key])) :: oc :: oa :: bt :: (cs 2 ((.op none (.i k6)) :: (.op none (.v [.str x8.Key, .str x8.Vehicle, .str x8.System, jI x8.Class, jI x8.Time, .lst (fl TL.enc x8.Lines) x8.Lines.length, jI x8.Cents])) :: (cs 2 []))))))) [0] (by kernel_rfl) (by kernel_rfl) (k2 (dT c7) (k2 (ir h9) (k2 (fl_ne (f := TC.enc) (z := 6) (fun _ => rfl) h9) (k2 (fl_sub (f := TC.enc) (z := 7) (j := k6) (a := 0) (n := 1) (fun _ => rfl) h9 (by decide) rfl) (k2 (beq_t c10) (k2 (ir h9) (k2 (fl_ne (f := TC.enc) (z := 6) (fun _ => rfl) h9) (ok1 (fl_sub0 (f := TC.enc) (z := 7) (j := k6) (fun _ => rfl) h9 rfl))))))))), by intro q; cases q⟩
   ·obtain ⟨h11, h⟩ := gdS h
    simp at h
  ·obtain rfl := oR h
   exact ⟨Does.of_viewM 1 400 (f48 ++ [.br false]) [0] (by kernel_rfl) (by kernel_rfl) (ok1 (dF c7)), by intro q; cases q⟩
def f50Of (l_0 : (List TC)) (key_1 : (List UInt8)) : Option (TC × Bool) :=
 (lp (f50Of_L1_step l_0 key_1) (0 : Nat)).bind fun qq => match qq with
 | Sum.inl o1 =>
  some ((⟨o1.1, o1.2.1, o1.2.2.1, o1.2.2.2.1, o1.2.2.2.2.1, o1.2.2.2.2.2.1, o1.2.2.2.2.2.2⟩ : TC), true)
 | Sum.inr (o1) =>
  some ((⟨([] : List UInt8), ([] : List UInt8), ([] : List UInt8), 0, 0, [], 0⟩ : TC), false)
theorem f50Of_ret (l_0 : (List TC)) (key_1 : (List UInt8)) (r : (TC × Bool)) (h : f50Of l_0 key_1 = some r) : Ret Tryz.prog G0 22 [.lst (fl TC.enc l_0) l_0.length, .str key_1] (.tup [.agg (TC.enc r.1), .bool r.2]) [] := by
 unfold f50Of at h
 let f49 : List CH := (cs 3 [])
 obtain ⟨qq, hl1, h⟩ := bnS h
 rcases qq with o1 | o1
 ·dsimp only at h
  obtain rfl := oI h
  exact Ret.of_view 400 (f49 ++ [.fcut 1 .ret [(4, .ptr 0 0), (5, .bool true)] (f50Of_L1_B l_0 key_1 (Sum.inl o1)) [0] [(0, .any), (1, .any), (4, .any), (6, jI (↑(0 : Nat) : Int))] [bS]]) [] (by kernel_rfl) (by kernel_rfl) (k2 (rfl : (jI 0 : AV) = jI (↑(0 : Nat) : Int)) (ok1 (f50Of_L1_does l_0 key_1 (s := (0 : Nat)) (r := Sum.inl o1) hl1)))
 ·dsimp only at h
  obtain rfl := oI h
  exact Ret.nl 4 (r := .tup [.agg [.str [], .str [], .str [], jI 0, jI 0, .nils, jI 0], .bool false]) (Ret.of_view 400 (f49 ++ ((.fcut 1 (.exit 0) [(4, .ptr 0 0)] (f50Of_L1_B l_0 key_1 (Sum.inr (o1))) [0] [(0, .any), (1, .any), (4, .any), (6, jI (↑(0 : Nat) : Int))] [bS]) :: (cs 3 []))) [] (by kernel_rfl) (by kernel_rfl) (k2 (rfl : (jI 0 : AV) = jI (↑(0 : Nat) : Int)) (ok1 (f50Of_L1_does l_0 key_1 (s := (0 : Nat)) (r := Sum.inr (o1)) hl1)))) rfl
end
end Go.Proofs.YtpadimnchmghpaaGreatDoor.Av
