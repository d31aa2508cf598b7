import Derived.Test.YtpadimnchmghpaaGreatDoorR2
import Derived.Test.YtpadimnchmghpaaGreatDoorAvLo
open Prod (fst)
open Int (tdiv tmod)
set_option maxHeartbeats 4000000
set_option maxRecDepth 100000
set_option linter.unusedVariables false
set_option linter.unusedSimpArgs false
namespace Go.Proofs.YtpadimnchmghpaaGreatDoor.Av
noncomputable section
open Go Go.Proofs
def lost0_L1_step (want_1 : (List TC)) : (Nat × (List ((List UInt8) × TC))) → Option ((Nat × (List ((List UInt8) × TC))) ⊕ (List ((List UInt8) × TC)))
 | (k11, b1) =>
  if (↑k11 : Int) < (↑want_1.length : Int) then
   (want_1[k11]?).bind fun x19 =>
   if ((getK fst b1 x19.Key).isSome) = true then
    (getK fst b1 x19.Key).bind fun q22 =>
    if InR .i64 ((↑k11 : Int) + 1) then
     some (Sum.inl ((k11 + 1), b1))
    else none
   else
    if InR .i64 ((↑k11 : Int) + 1) then
     some (Sum.inl ((k11 + 1), (setK fst b1 (x19.Key, x19))))
    else none
  else
   some (Sum.inr b1)
def lost0_L1_H (want_1 : (List TC)) : (Nat × (List ((List UInt8) × TC))) → St := fun (s : (Nat × (List ((List UInt8) × TC)))) => S 30 [(3, .mapr 0), (9, .lst (fl TC.enc want_1) want_1.length), (10, .int .i64 (↑want_1.length : Int)), (11, .int .i64 (↑s.1 : Int))] [(bM .s (List.map mTC s.2))]
def lost0_L1_X (want_1 : (List TC)) : (List ((List UInt8) × TC)) → AEx := fun o => (.exit 0)
def lost0_L1_T (want_1 : (List TC)) : (List ((List UInt8) × TC)) → List (Nat × AV) := fun o => [(3, .mapr 0)]
def lost0_L1_B (want_1 : (List TC)) : (List ((List UInt8) × TC)) → List Blk := fun o => [(bM .s (List.map mTC o))]
def lost0_L1_E (want_1 : (List TC)) (q : (List ((List UInt8) × TC))) : St := S 30 (lost0_L1_T want_1 q) (lost0_L1_B want_1 q)
theorem lost0_L1_does (want_1 : (List TC)) {s : (Nat × (List ((List UInt8) × TC)))} {r : (List ((List UInt8) × TC))} (h : lp (lost0_L1_step want_1) s = some r) : Does Tryz.prog G0 1 (.loop (bodyAt Tryz.prog 30 [1, 1, 0, 1, 0, 0])) (lost0_L1_H want_1 s) (lost0_L1_X want_1 r) (lost0_L1_E want_1 r) := by
 refine Does.lp (H := lost0_L1_H want_1) (X := lost0_L1_X want_1) (E := lost0_L1_E want_1) (fun s s2 h => ?_) (fun s r h => ?_) h
 ·obtain ⟨k11, b1⟩ := s
  unfold lost0_L1_step at h
  try dsimp only at h
  rcases itS h with ⟨c18, h⟩ | ⟨c18, h⟩
  ·obtain ⟨x19, h20, h⟩ := bnS h
   let f123 : List CH := (oa :: bt :: (.op none (.i k11)) :: (.op none (.v [.str x19.Key, .str x19.Vehicle, .str x19.System, .int .i64 x19.Class, .int .i64 x19.Time, .lst (fl TL.enc x19.Lines) x19.Lines.length, .int .i64 x19.Cents])) :: (cs 5 []))
   have g124 := k2 (dT c18) (k2 (ir h20) (k2 (fl_ne (f := TC.enc) (z := 6) (fun _ => rfl) h20) (ok1 (fl_sub0 (f := TC.enc) (z := 7) (j := k11) (fun _ => rfl) h20 rfl))))
   rcases itS h with ⟨c21, h⟩ | ⟨c21, h⟩
   ·obtain ⟨q22, h23, h⟩ := bnS h
    obtain ⟨h24, h⟩ := gdS h
    obtain rfl := oL h
    exact Does.of_viewM 1 400 (f123 ++ ((.op none (.v [.agg (TC.enc q22.2)])) :: (cs 8 [.br false, ow, oc]))) [0] (by kernel_rfl) (by kernel_rfl) (aO g124 (k2 ((lookK_some mTC_key (k := x19.Key) (mTC_at _) h23) : lookE (List.map mTC b1) (.str x19.Key) = some (.agg (TC.enc q22.2))) (k2 (rfl : false = false) (ok1 h24))))
   ·obtain ⟨h25, h⟩ := gdS h
    obtain rfl := oL h
    exact Does.of_viewM 1 400 (f123 ++ ((.op none (.b false)) :: (cs 8 (bt :: (cs 5 [.tr (.mp 0 (List.map mTC (setK fst b1 (x19.Key, x19)))), ow, oc]))))) [0] (by kernel_rfl) (by kernel_rfl) (aO g124 (k2 ((lookK_none mTC_key (k := x19.Key) (mTC_at _) (getK_no c21)) : lookE (List.map mTC b1) (.str x19.Key) = none) (k2 (rfl : true = true) (k2 ((List.Perm.of_eq (set_map (κ := fst) mTC_key b1 (x19.Key, x19))) : List.Perm (setE (List.map mTC b1) (.str x19.Key) (.agg (TC.enc x19))) (List.map mTC (setK fst b1 (x19.Key, x19)))) (ok1 h25)))))
  ·simp at h
 ·obtain ⟨k11, b1⟩ := s
  unfold lost0_L1_step at h
  try dsimp only at h
  rcases itS h with ⟨c18, h⟩ | ⟨c18, h⟩
  ·obtain ⟨x19, h20, h⟩ := bnS h
   rcases itS h with ⟨c21, h⟩ | ⟨c21, h⟩
   ·obtain ⟨q22, h23, h⟩ := bnS h
    obtain ⟨h24, h⟩ := gdS h
    simp at h
   ·obtain ⟨h25, h⟩ := gdS h
    simp at h
  ·obtain rfl := oR h
   exact ⟨Does.of_viewM 1 400 [oa, .br false] [0] (by kernel_rfl) (by kernel_rfl) (ok1 (dF c18)), by intro q; cases q⟩
theorem lost_pre (want_1 : (List TC)) (a : List ((List UInt8) × TC)) (o1 : (List ((List UInt8) × TC))) (hl1 : lp (lost0_L1_step want_1) ((0 : Nat), ([] : List ((List UInt8) × TC))) = some o1) : OpsDoes Tryz.prog G0 0 (opsOf (bodyAt Tryz.prog 20 [1, 1, 0, 0])) [0, 1] (S 44 [(1, .lst (fl TC.enc want_1) want_1.length), (5, .mapr 0), (6, .int .i64 0)] [bM .s (a.map mTC)]) .normal (S 44 [(5, .mapr 0), (6, .int .i64 0), (14, .mapr 1)] [bM .s (a.map mTC), bM .s (List.map mTC o1)]) :=
 OpsDoes.of_viewM 0 400 (cs 8 ((.fcut 1 (.exit 0) [(3, .mapr 0)] (lost0_L1_B want_1 o1) [1] [(3, .any), (9, .any), (10, .any), (11, jI (↑(0 : Nat) : Int))] [bS]) :: (cs 2 []))) [0, 1] (ps := [((jI 0 : AV) = jI (↑(0 : Nat) : Int)), (Does Tryz.prog G0 1 (.loop (bodyAt Tryz.prog 30 [1, 1, 0, 1, 0, 0])) (S 30 [(3, .mapr 0), (9, .lst (fl TC.enc want_1) want_1.length), (10, jI (↑want_1.length : Int)), (11, jI (↑(0 : Nat) : Int))] [(bM .s (List.map mTC ([] : List ((List UInt8) × TC))))]) (.exit 0) (S 30 [(3, .mapr 0)] [(bM .s (List.map mTC o1))]))]) (by kernel_rfl) (by kernel_rfl) ⟨rfl, ok1 (lost0_L1_does want_1 (s := ((0 : Nat), ([] : List ((List UInt8) × TC)))) (r := o1) hl1)⟩
theorem lost_rng (a l : List ((List UInt8) × TC)) (m : Nat) (ms : List MapEntry) (cl : Nat) : OpsDoes Tryz.prog G0 0 (opsOf (bodyAt Tryz.prog 20 [1, 1, 0, 0])) [2] (S 44 [(5, .mapr 0), (6, .int .i64 0), (14, .mapr 1)] [bM .s (a.map mTC), bR m .s (l.map mTC) ms cl]) .normal (S 44 [(5, .mapr 0), (6, .int .i64 0), (15, .ptr 2 0)] [bM .s (a.map mTC), bR m .s (l.map mTC) ms cl, bI m cl [] cl]) :=
 OpsDoes.of_viewM (P := Tryz.prog) (G := G0) 0 400 [] [0, 1, 2] (ops := opsOf (bodyAt Tryz.prog 20 [1, 1, 0, 0])) (l := [2]) (ps := []) (by kernel_rfl) (by kernel_rfl) trivial
abbrev lost_H (a l : List ((List UInt8) × TC)) (m : Nat) (ms : List MapEntry) (cl : Nat) (s : Int) (seen : List Nat) : St :=
 S 44 [(5, .mapr 0), (6, .int .i64 s), (15, .ptr 2 0)] [bM .s (a.map mTC), bR m .s (l.map mTC) ms cl, bI m cl seen cl]
def lost_step (a : List ((List UInt8) × TC)) (s : Int) (y : ((List UInt8) × TC)) : Option Int :=
 if ((getK fst a y.1).isSome) = true then
  (getK fst a y.1).bind fun q27 =>
  some s
 else
  if y.2.Cents ≥ (0 : Int) then
   if y.2.Cents ≤ (1125899906842624 : Int) then
    if InR .i64 (s + y.2.Cents) then
     some (s + y.2.Cents)
    else none
   else
    some s
  else
   some s
theorem lost_round_0 (a l : List ((List UInt8) × TC)) (m : Nat) (ms : List MapEntry) (cl : Nat) (s : Int) (seen : List Nat) (y : ((List UInt8) × TC)) (b : Nat) (he : EntAt (l.map mTC) ms (seen ++ [b]) (.str y.1) (.agg (TC.enc y.2))) (c26 : ((getK fst a y.1).isSome) = true) (q27 : ((List UInt8) × TC)) (h28 : getK fst a y.1 = some q27) : Does Tryz.prog G0 0 (bodyAt Tryz.prog 20 [1, 1, 0, 1, 0, 0, 1]) (next2 (lost_H a l m ms cl s seen) 2 16 17 (.tup [.bool true, .str y.1, .agg (TC.enc y.2)]) true (.mit m cl (seen ++ [b]) cl)) .normal (lost_H a l m ms cl s (seen ++ [b])) :=
 Does.of_viewM 0 400 (bt :: (.op none (.v [.mapr 1, .str y.1, .agg (TC.enc y.2)])) :: (cs 7 ((.op none (.v [.agg (TC.enc q27.2)])) :: (cs 18 [.br false])))) [0, 1, 2] (ps := [(true = true), (m = m ∧ cl = cl ∧ EntAt (l.map mTC) ms (seen ++ [b]) (.str y.1) (.agg (TC.enc y.2))), (lookE (List.map mTC a) (.str y.1) = some (.agg (TC.enc q27.2))), (false = false)]) (by kernel_rfl) (by kernel_rfl) ⟨rfl, ⟨rfl, rfl, he⟩, (lookK_some mTC_key (k := y.1) (mTC_at _) h28), ok1 rfl⟩
theorem lost_round_1 (a l : List ((List UInt8) × TC)) (m : Nat) (ms : List MapEntry) (cl : Nat) (s : Int) (seen : List Nat) (y : ((List UInt8) × TC)) (b : Nat) (he : EntAt (l.map mTC) ms (seen ++ [b]) (.str y.1) (.agg (TC.enc y.2))) (c26 : ¬ (((getK fst a y.1).isSome) = true)) (c29 : y.2.Cents ≥ (0 : Int)) (c30 : y.2.Cents ≤ (1125899906842624 : Int)) (h31 : InR .i64 (s + y.2.Cents)) : Does Tryz.prog G0 0 (bodyAt Tryz.prog 20 [1, 1, 0, 1, 0, 0, 1]) (next2 (lost_H a l m ms cl s seen) 2 16 17 (.tup [.bool true, .str y.1, .agg (TC.enc y.2)]) true (.mit m cl (seen ++ [b]) cl)) .normal (lost_H a l m ms cl (s + y.2.Cents) (seen ++ [b])) :=
 Does.of_viewM 0 400 (bt :: (.op none (.v [.mapr 1, .str y.1, .agg (TC.enc y.2)])) :: (cs 7 ((.op none (.b false)) :: (cs 11 (oa :: (cs 2 (tc :: oc :: oa :: oc :: bt :: (cs 3 [ow, oc])))))))) [0, 1, 2] (ps := [(true = true), (m = m ∧ cl = cl ∧ EntAt (l.map mTC) ms (seen ++ [b]) (.str y.1) (.agg (TC.enc y.2))), (lookE (List.map mTC a) (.str y.1) = none), ((decide (y.2.Cents ≥ (0 : Int))) = true), ((decide (y.2.Cents ≤ (1125899906842624 : Int))) = true), (IntKind.min .i64 ≤ (s + y.2.Cents) ∧ (s + y.2.Cents) ≤ IntKind.max .i64)]) (by kernel_rfl) (by kernel_rfl) ⟨rfl, ⟨rfl, rfl, he⟩, (lookK_none mTC_key (k := y.1) (mTC_at _) (getK_no c26)), (dT c29), (dT c30), ok1 h31⟩
theorem lost_round_2 (a l : List ((List UInt8) × TC)) (m : Nat) (ms : List MapEntry) (cl : Nat) (s : Int) (seen : List Nat) (y : ((List UInt8) × TC)) (b : Nat) (he : EntAt (l.map mTC) ms (seen ++ [b]) (.str y.1) (.agg (TC.enc y.2))) (c26 : ¬ (((getK fst a y.1).isSome) = true)) (c29 : y.2.Cents ≥ (0 : Int)) (c30 : ¬ (y.2.Cents ≤ (1125899906842624 : Int))) : Does Tryz.prog G0 0 (bodyAt Tryz.prog 20 [1, 1, 0, 1, 0, 0, 1]) (next2 (lost_H a l m ms cl s seen) 2 16 17 (.tup [.bool true, .str y.1, .agg (TC.enc y.2)]) true (.mit m cl (seen ++ [b]) cl)) .normal (lost_H a l m ms cl s (seen ++ [b])) :=
 Does.of_viewM 0 400 (bt :: (.op none (.v [.mapr 1, .str y.1, .agg (TC.enc y.2)])) :: (cs 7 ((.op none (.b false)) :: (cs 11 (oa :: (cs 2 [tc, oc, oa, oc, .br false])))))) [0, 1, 2] (ps := [(true = true), (m = m ∧ cl = cl ∧ EntAt (l.map mTC) ms (seen ++ [b]) (.str y.1) (.agg (TC.enc y.2))), (lookE (List.map mTC a) (.str y.1) = none), ((decide (y.2.Cents ≥ (0 : Int))) = true), ((decide (y.2.Cents ≤ (1125899906842624 : Int))) = false)]) (by kernel_rfl) (by kernel_rfl) ⟨rfl, ⟨rfl, rfl, he⟩, (lookK_none mTC_key (k := y.1) (mTC_at _) (getK_no c26)), (dT c29), ok1 (dF c30)⟩
theorem lost_round_3 (a l : List ((List UInt8) × TC)) (m : Nat) (ms : List MapEntry) (cl : Nat) (s : Int) (seen : List Nat) (y : ((List UInt8) × TC)) (b : Nat) (he : EntAt (l.map mTC) ms (seen ++ [b]) (.str y.1) (.agg (TC.enc y.2))) (c26 : ¬ (((getK fst a y.1).isSome) = true)) (c29 : ¬ (y.2.Cents ≥ (0 : Int))) : Does Tryz.prog G0 0 (bodyAt Tryz.prog 20 [1, 1, 0, 1, 0, 0, 1]) (next2 (lost_H a l m ms cl s seen) 2 16 17 (.tup [.bool true, .str y.1, .agg (TC.enc y.2)]) true (.mit m cl (seen ++ [b]) cl)) .normal (lost_H a l m ms cl s (seen ++ [b])) :=
 Does.of_viewM 0 400 (bt :: (.op none (.v [.mapr 1, .str y.1, .agg (TC.enc y.2)])) :: (cs 7 ((.op none (.b false)) :: (cs 11 (oa :: (cs 2 (oF :: (cs 3 [.br false])))))))) [0, 1, 2] (ps := [(true = true), (m = m ∧ cl = cl ∧ EntAt (l.map mTC) ms (seen ++ [b]) (.str y.1) (.agg (TC.enc y.2))), (lookE (List.map mTC a) (.str y.1) = none), ((decide (y.2.Cents ≥ (0 : Int))) = false), (false = false)]) (by kernel_rfl) (by kernel_rfl) ⟨rfl, ⟨rfl, rfl, he⟩, (lookK_none mTC_key (k := y.1) (mTC_at _) (getK_no c26)), (dF c29), ok1 rfl⟩
theorem lost_round (a l : List ((List UInt8) × TC)) (m : Nat) (ms : List MapEntry) (cl : Nat) (s : Int) (seen : List Nat) (y : ((List UInt8) × TC)) (b : Nat) (he : EntAt (l.map mTC) ms (seen ++ [b]) (.str y.1) (.agg (TC.enc y.2))) (r : Int) (h : lost_step a s y = some r) : Does Tryz.prog G0 0 (bodyAt Tryz.prog 20 [1, 1, 0, 1, 0, 0, 1]) (next2 (lost_H a l m ms cl s seen) 2 16 17 (.tup [.bool true, .str y.1, .agg (TC.enc y.2)]) true (.mit m cl (seen ++ [b]) cl)) .normal (lost_H a l m ms cl r (seen ++ [b])) := by
 unfold lost_step at h
 rcases itS h with ⟨c26, h⟩ | ⟨c26, h⟩
 ·obtain ⟨q27, h28, h⟩ := bnS h
  simp only [sJ] at h
  subst h
  exact lost_round_0 a l m ms cl s seen y b he c26 q27 h28
 ·rcases itS h with ⟨c29, h⟩ | ⟨c29, h⟩
  ·rcases itS h with ⟨c30, h⟩ | ⟨c30, h⟩
   ·obtain ⟨h31, h⟩ := gdS h
    simp only [sJ] at h
    subst h
    exact lost_round_1 a l m ms cl s seen y b he c26 c29 c30 h31
   ·simp only [sJ] at h
    subst h
    exact lost_round_2 a l m ms cl s seen y b he c26 c29 c30
  ·simp only [sJ] at h
   subst h
   exact lost_round_3 a l m ms cl s seen y b he c26 c29
theorem lost_done (a l : List ((List UInt8) × TC)) (m : Nat) (ms : List MapEntry) (cl : Nat) (s : Int) (seen : List Nat) :
  Does Tryz.prog G0 0 (bodyAt Tryz.prog 20 [1, 1, 0, 1, 0, 0, 1]) (next2 (lost_H a l m ms cl s seen) 2 16 17 (.tup [.bool false]) false (.mit m cl seen cl)) (.exit 0) (S 44 [(6, .int .i64 s)] []) :=
 Does.of_viewM 0 400 [] [] (ps := []) (by kernel_rfl) (by kernel_rfl) trivial
theorem lost_loop (a l : List ((List UInt8) × TC)) (m : Nat) (ms : List MapEntry) (cl : Nat) (hl : l.length = ms.length) (hn : (ms.map (·.born)).Nodup) {r : Int} (h : ∀ l' : List ((List UInt8) × TC), l'.Perm l → l'.foldlM (lost_step a) 0 = some r) :
  Does Tryz.prog G0 0 (bodyAt Tryz.prog 20 [1, 1, 0, 1, 0]) (lost_H a l m ms cl 0 []) (.exit 0) (S 44 [(6, .int .i64 r)] []) := by
 obtain ⟨id, ops, hc, hops⟩ := loopOk_eq (c := bodyAt Tryz.prog 20 [1, 1, 0, 1, 0]) (ti := 15) (td := 16) (te := 17) (nt := 44) (by kernel_rfl)
 have hrest : restOf (bodyAt Tryz.prog 20 [1, 1, 0, 1, 0]) = bodyAt Tryz.prog 20 [1, 1, 0, 1, 0, 0, 1] := by kernel_rfl
 rw [hrest] at hc
 rw [hc]
 have H := map_loopT (P := Tryz.prog) (G := G0) (n := 0) (id := id) (i := 2) (j := 1) (m := m) (cl := cl) (kd := .s) (ent := mTC) (l := l) (ms := ms) (σ := Int) (rest := bodyAt Tryz.prog 20 [1, 1, 0, 1, 0, 0, 1])
  (lost_step a) (lost_H a l m ms cl) (fun s => S 44 [(6, .int .i64 s)] []) (.exit 0) hl hn hops
  (fun s seen => ⟨rfl, Nat.zero_le _, by kernel_rfl, by kernel_rfl, by kernel_rfl⟩) (by simp)
  (fun s s' seen x e y h1 h2 h3 => lost_round a l m ms cl s seen y e.born ⟨x, e, h1, by rw [List.getElem?_map, h2]; rfl, by simp⟩ s' h3)
  (fun s seen => lost_done a l m ms cl s seen) (s0 := 0) (fun l' hp => by rw [h l' hp]; simp)
 refine H.one (by simp) fun e1 s1 ⟨he, l', t, hp, hf, hs⟩ => ⟨he, ?_⟩
 rw [h l' hp] at hf
 cases hf
 subst hs
 exact Sub.refl
theorem lost_tail (want_1 : (List TC)) (a o1 : List ((List UInt8) × TC)) (hl1 : lp (lost0_L1_step want_1) ((0 : Nat), ([] : List ((List UInt8) × TC))) = some o1) {r : Int} (h : mlp (lost_step a) o1 0 = some r) :
  Does Tryz.prog G0 0 (bodyAt Tryz.prog 20 [1, 1]) (S 44 [(1, .lst (fl TC.enc want_1) want_1.length), (5, .mapr 0), (6, .int .i64 0)] [bM .s (a.map mTC)]) .ret (S 44 [(4, .int .i64 r)] []) := by
 have hR : ∃ id, bodyAt Tryz.prog 20 [1, 1] = .seq (.seq (.region id (opsOf (bodyAt Tryz.prog 20 [1, 1, 0, 0])) false) (.block 0 (bodyAt Tryz.prog 20 [1, 1, 0, 1, 0]))) (bodyAt Tryz.prog 20 [1, 1, 1]) := ⟨2, by kernel_rfl⟩
 obtain ⟨id, hR⟩ := hR
 rw [hR]
 refine DoesE.one (R := fun e s' => e = .ret ∧ s' = S 44 [(4, .int .i64 r)] []) ?_ (by simp) fun e s' ⟨h1, h2⟩ => ⟨h1, by rw [h2]; exact Sub.refl⟩
 refine DoesE.seq (R := fun e s' => e = .normal ∧ s' = S 44 [(6, .int .i64 r)] []) ?_ (fun s1 ⟨_, hs⟩ => ?_) (fun e s1 hne ⟨h1, _⟩ => absurd h1 hne)
 ·refine DoesE.seq (DoesE.region_show (j := 1) (kd := .s) (es := List.map mTC o1) (l1 := [0, 1]) (l2 := [2]) (s2 := fun m es' ms cl => S 44 [(5, .mapr 0), (6, .int .i64 0), (15, .ptr 2 0)] [bM .s (a.map mTC), bR m .s es' ms cl, bI m cl [] cl]) (by kernel_rfl) (lost_pre want_1 a o1 hl1) (by kernel_rfl) ?_) (fun s1 hh => ?_) (fun e s1 hne h1 => absurd h1.1 hne)
  ·intro m es' ms cl hp _ _
   obtain ⟨l', _, rfl⟩ := perm_map hp.symm
   have hh := lost_rng a l' m ms cl
   have he : S 44 [(5, .mapr 0), (6, .int .i64 0), (14, .mapr 1)] [bM .s (a.map mTC), bR m .s (l'.map mTC) ms cl] = { S 44 [(5, .mapr 0), (6, .int .i64 0), (14, .mapr 1)] [bM .s (a.map mTC), bM .s (List.map mTC o1)] with hp := (S 44 [(5, .mapr 0), (6, .int .i64 0), (14, .mapr 1)] [bM .s (a.map mTC), bM .s (List.map mTC o1)]).hp.set 1 (.rm m .s (l'.map mTC) ms cl) } := by kernel_rfl
   rw [he] at hh
   exact hh
  ·obtain ⟨_, m, es', ms, cl, hp, hlen, hnd, hs⟩ := hh
   subst hs
   obtain ⟨l', hl', rfl⟩ := perm_map hp.symm
   exact (Does.block (lost_loop a l' m ms cl (by simpa using hlen) hnd fun l2 h2 => mlp_some h l2 (h2.trans hl'))).toE.mono fun e s' ⟨h1, h2⟩ => ⟨by rw [h1]; rfl, h2⟩
 ·subst hs
  have := (Does.of_viewM (P := Tryz.prog) (G := G0) 0 400 [] [] (c := bodyAt Tryz.prog 20 [1, 1, 1]) (s := S 44 [(6, jI r)] []) (e := .ret) (nt := 44) (tms := [(4, jI r)]) (blks := []) (ps := []) (by kernel_rfl) (by kernel_rfl) trivial)
  exact this.toE.mono fun e s' h => h
def aULost_L1_step (have_0 : (List TC)) : (Nat × (List ((List UInt8) × TC))) → Option ((Nat × (List ((List UInt8) × TC))) ⊕ (List ((List UInt8) × TC)))
 | (k11, b0) =>
  if (↑k11 : Int) < (↑have_0.length : Int) then
   (have_0[k11]?).bind fun x19 =>
   if ((getK fst b0 x19.Key).isSome) = true then
    (getK fst b0 x19.Key).bind fun q22 =>
    if InR .i64 ((↑k11 : Int) + 1) then
     some (Sum.inl ((k11 + 1), b0))
    else none
   else
    if InR .i64 ((↑k11 : Int) + 1) then
     some (Sum.inl ((k11 + 1), (setK fst b0 (x19.Key, x19))))
    else none
  else
   some (Sum.inr b0)
def aULost_L1_H (have_0 : (List TC)) : (Nat × (List ((List UInt8) × TC))) → St := fun (s : (Nat × (List ((List UInt8) × TC)))) => S 30 [(3, .mapr 0), (9, .lst (fl TC.enc have_0) have_0.length), (10, .int .i64 (↑have_0.length : Int)), (11, .int .i64 (↑s.1 : Int))] [(bM .s (List.map mTC s.2))]
def aULost_L1_X (have_0 : (List TC)) : (List ((List UInt8) × TC)) → AEx := fun o => (.exit 0)
def aULost_L1_T (have_0 : (List TC)) : (List ((List UInt8) × TC)) → List (Nat × AV) := fun o => [(3, .mapr 0)]
def aULost_L1_B (have_0 : (List TC)) : (List ((List UInt8) × TC)) → List Blk := fun o => [(bM .s (List.map mTC o))]
def aULost_L1_E (have_0 : (List TC)) (q : (List ((List UInt8) × TC))) : St := S 30 (aULost_L1_T have_0 q) (aULost_L1_B have_0 q)
theorem aULost_L1_does (have_0 : (List TC)) {s : (Nat × (List ((List UInt8) × TC)))} {r : (List ((List UInt8) × TC))} (h : lp (aULost_L1_step have_0) s = some r) : Does Tryz.prog G0 1 (.loop (bodyAt Tryz.prog 30 [1, 1, 0, 1, 0, 0])) (aULost_L1_H have_0 s) (aULost_L1_X have_0 r) (aULost_L1_E have_0 r) := by
 refine Does.lp (H := aULost_L1_H have_0) (X := aULost_L1_X have_0) (E := aULost_L1_E have_0) (fun s s2 h => ?_) (fun s r h => ?_) h
 ·obtain ⟨k11, b0⟩ := s
  unfold aULost_L1_step at h
  try dsimp only at h
  rcases itS h with ⟨c18, h⟩ | ⟨c18, h⟩
  ·obtain ⟨x19, h20, h⟩ := bnS h
   let f125 : List CH := (oa :: bt :: (.op none (.i k11)) :: (.op none (.v [.str x19.Key, .str x19.Vehicle, .str x19.System, .int .i64 x19.Class, .int .i64 x19.Time, .lst (fl TL.enc x19.Lines) x19.Lines.length, .int .i64 x19.Cents])) :: (cs 5 []))
   have g126 := k2 (dT c18) (k2 (ir h20) (k2 (fl_ne (f := TC.enc) (z := 6) (fun _ => rfl) h20) (ok1 (fl_sub0 (f := TC.enc) (z := 7) (j := k11) (fun _ => rfl) h20 rfl))))
   rcases itS h with ⟨c21, h⟩ | ⟨c21, h⟩
   ·obtain ⟨q22, h23, h⟩ := bnS h
    obtain ⟨h24, h⟩ := gdS h
    obtain rfl := oL h
    exact Does.of_viewM 1 400 (f125 ++ ((.op none (.v [.agg (TC.enc q22.2)])) :: (cs 8 [.br false, ow, oc]))) [0] (by kernel_rfl) (by kernel_rfl) (aO g126 (k2 ((lookK_some mTC_key (k := x19.Key) (mTC_at _) h23) : lookE (List.map mTC b0) (.str x19.Key) = some (.agg (TC.enc q22.2))) (k2 (rfl : false = false) (ok1 h24))))
   ·obtain ⟨h25, h⟩ := gdS h
    obtain rfl := oL h
    exact Does.of_viewM 1 400 (f125 ++ ((.op none (.b false)) :: (cs 8 (bt :: (cs 5 [.tr (.mp 0 (List.map mTC (setK fst b0 (x19.Key, x19)))), ow, oc]))))) [0] (by kernel_rfl) (by kernel_rfl) (aO g126 (k2 ((lookK_none mTC_key (k := x19.Key) (mTC_at _) (getK_no c21)) : lookE (List.map mTC b0) (.str x19.Key) = none) (k2 (rfl : true = true) (k2 ((List.Perm.of_eq (set_map (κ := fst) mTC_key b0 (x19.Key, x19))) : List.Perm (setE (List.map mTC b0) (.str x19.Key) (.agg (TC.enc x19))) (List.map mTC (setK fst b0 (x19.Key, x19)))) (ok1 h25)))))
  ·simp at h
 ·obtain ⟨k11, b0⟩ := s
  unfold aULost_L1_step at h
  try dsimp only at h
  rcases itS h with ⟨c18, h⟩ | ⟨c18, h⟩
  ·obtain ⟨x19, h20, h⟩ := bnS h
   rcases itS h with ⟨c21, h⟩ | ⟨c21, h⟩
   ·obtain ⟨q22, h23, h⟩ := bnS h
    obtain ⟨h24, h⟩ := gdS h
    simp at h
   ·obtain ⟨h25, h⟩ := gdS h
    simp at h
  ·obtain rfl := oR h
   exact ⟨Does.of_viewM 1 400 [oa, .br false] [0] (by kernel_rfl) (by kernel_rfl) (ok1 (dF c18)), by intro q; cases q⟩
def aULost (have_0 : (List TC)) (want_1 : (List TC)) : Option Int :=
 (lp (aULost_L1_step have_0) ((0 : Nat), ([] : List ((List UInt8) × TC)))).bind fun o1 =>
 (lp (lost0_L1_step want_1) ((0 : Nat), ([] : List ((List UInt8) × TC)))).bind fun o26 =>
 (mlp (lost_step o1) o26 0).bind fun r28 =>
 some r28
theorem aULost_ret (have_0 : (List TC)) (want_1 : (List TC)) (r : Int) (h : aULost have_0 want_1 = some r) : Ret Tryz.prog G0 20 [.lst (fl TC.enc have_0) have_0.length, .lst (fl TC.enc want_1) want_1.length] (.int .i64 r) [] := by
 unfold aULost at h
 obtain ⟨o1, hl1, h⟩ := bnS h
 obtain ⟨o26, h27, h⟩ := bnS h
 obtain ⟨r28, h29, h⟩ := bnS h
 obtain rfl := oI h
 exact Ret.of_view 400 (cs 9 ((.fcut 1 (.exit 0) [(3, .mapr 0)] (aULost_L1_B have_0 o1) [0] [(3, .any), (9, .any), (10, .any), (11, jI (↑(0 : Nat) : Int))] [bS]) :: (cs 4 [.fcuta 0 0 .ret [(4, jI r28)] [] [0] [(1, .lst (fl TC.enc want_1) want_1.length), (5, .mapr 0), (6, jI 0)] [(bM .s (List.map mTC o1))]]))) [] (by kernel_rfl) (by kernel_rfl) (k2 (rfl : (jI 0 : AV) = jI (↑(0 : Nat) : Int)) (k2 (aULost_L1_does have_0 (s := ((0 : Nat), ([] : List ((List UInt8) × TC)))) (r := o1) hl1) (k2 (rfl : (.lst (fl TC.enc want_1) want_1.length : AV) = .lst (fl TC.enc want_1) want_1.length) (k2 (rfl : (.mapr 0 : AV) = .mapr 0) (k2 (rfl : (jI 0 : AV) = jI 0) (k2 (⟨rfl, rfl⟩ : (.s : KK) = .s ∧ (List.map mTC o1) = (List.map mTC o1)) (ok1 ((lost_tail want_1 o1 o26 h27 h29) : Does Tryz.prog G0 0 (bodyAt Tryz.prog 20 [1, 1]) (S 44 [(1, .lst (fl TC.enc want_1) want_1.length), (5, .mapr 0), (6, jI 0)] [(bM .s (List.map mTC o1))]) .ret (S 44 [(4, jI r28)] [])))))))))
end
end Go.Proofs.YtpadimnchmghpaaGreatDoor.Av
