/- awake of law 50 returns true. (Plain.) -/
import Derived.Test.YtpadimnchmghpaaGreatDoorPG
import Derived.Test.YtpadimnchmghpaaGreatDoorW0
set_option linter.unusedVariables false
set_option linter.unusedSimpArgs false
set_option maxHeartbeats 1000000
namespace Go.Proofs.YtpadimnchmghpaaGreatDoor.Av
open Go Go.Proofs
def cK : Tapi_Charge := ⟨[107], [118], [115], 1, 2, [], 3⟩
def cA : Tapi_Charge := ⟨[97], [], [], 0, 90000, [], 100⟩
def cB : Tapi_Charge := ⟨[98], [], [], 0, 90000, [], 200⟩
def cB2 : Tapi_Charge := ⟨[98], [], [], 0, 90000, [], 250⟩
def cC : Tapi_Charge := ⟨[99], [], [], 0, 90000, [], 300⟩
theorem vb0 : vbytes 0 = [0] := by rw [vbytes_lt (by decide)]; rfl
theorem vb2 : vbytes 2 = [2] := by rw [vbytes_lt (by decide)]; rfl
theorem vb4 : vbytes 4 = [4] := by rw [vbytes_lt (by decide)]; rfl
theorem vb6 : vbytes 6 = [6] := by rw [vbytes_lt (by decide)]; rfl
theorem vb200 : vbytes 200 = [200, 1] := by rw [vbytes_ge (by decide), vbytes_lt (by decide)]; rfl
theorem vb400 : vbytes 400 = [144, 3] := by rw [vbytes_ge (by decide), vbytes_lt (by decide)]; rfl
theorem vb500 : vbytes 500 = [244, 3] := by rw [vbytes_ge (by decide), vbytes_lt (by decide)]; rfl
theorem vb600 : vbytes 600 = [216, 4] := by rw [vbytes_ge (by decide), vbytes_lt (by decide)]; rfl
theorem vbT : vbytes 180000 = [160, 254, 10] := by rw [vbytes_ge (by decide), vbytes_ge (by decide), vbytes_lt (by decide)]; rfl
theorem pI {b c : List UInt8} {n : Int} {z : Nat} (hz : zcode n = z) (hv : vbytes z = c) : putI b n = b ++ c := by unfold putI; rw [hz, hv]
theorem pT {b s c : List UInt8} {z : Nat} (hz : zcode s.length = z) (hv : vbytes z = c) : putT b s = b ++ c ++ s := by unfold putT; rw [pI hz hv]
theorem dK : leafR cK = hashR [2, 107, 2, 118, 2, 115, 2, 4, 6, 0] := by
  have e : descr cK = putI (putI (putI (putI (putT (putT (putT [] [107]) [118]) [115]) 1) 2) 3) 0 := rfl
  unfold leafR
  rw [e, pI (n := 0) (z := 0) rfl vb0, pI (n := 3) (z := 6) rfl vb6, pI (n := 2) (z := 4) rfl vb4, pI (n := 1) (z := 2) rfl vb2, pT (s := [115]) (z := 2) rfl vb2, pT (s := [118]) (z := 2) rfl vb2, pT (s := [107]) (z := 2) rfl vb2]
  exact congrArg hashR rfl
theorem dX {k : List UInt8} {n : Int} {z : Nat} {c : List UInt8} (hk : k.length = 1) (hz : zcode n = z) (hv : vbytes z = c) : leafR ⟨k, [], [], 0, 90000, [], n⟩ = hashR ([2] ++ k ++ [0] ++ [0] ++ [0] ++ [160, 254, 10] ++ c ++ [0]) := by
  have e : descr ⟨k, [], [], 0, 90000, [], n⟩ = putI (putI (putI (putI (putT (putT (putT [] k) []) []) 0) 90000) n) 0 := rfl
  have e2 : ∀ b : List UInt8, putT b [] = b ++ [0] := fun b => by rw [pT (s := []) (z := 0) rfl vb0]; simp
  unfold leafR
  rw [e, pI (n := 0) (z := 0) rfl vb0, pI hz hv, pI (n := 90000) (z := 180000) rfl vbT, pI (n := 0) (z := 0) rfl vb0, e2, e2, pT (s := k) (z := 2) (by rw [hk]; rfl) vb2]
  exact congrArg hashR (by simp)
theorem lA : leafR cA = hashR [2, 97, 0, 0, 0, 160, 254, 10, 200, 1, 0] := (dX (k := [97]) (n := 100) rfl rfl vb200).trans (congrArg hashR rfl)
theorem lB : leafR cB = hashR [2, 98, 0, 0, 0, 160, 254, 10, 144, 3, 0] := (dX (k := [98]) (n := 200) rfl rfl vb400).trans (congrArg hashR rfl)
theorem lB2 : leafR cB2 = hashR [2, 98, 0, 0, 0, 160, 254, 10, 244, 3, 0] := (dX (k := [98]) (n := 250) rfl rfl vb500).trans (congrArg hashR rfl)
theorem lC : leafR cC = hashR [2, 99, 0, 0, 0, 160, 254, 10, 216, 4, 0] := (dX (k := [99]) (n := 300) rfl rfl vb600).trans (congrArg hashR rfl)
theorem lAB : ChL [cA, cB] := by refine ⟨by decide, ?_, ?_⟩ <;> decide
theorem lBC : ChL [cB2, cC] := by refine ⟨by decide, ?_, ?_⟩ <;> decide
theorem lN : ChL [] := by refine ⟨by decide, ?_, ?_⟩ <;> decide
theorem ksR_of {a b : List Tapi_Charge} {L : List Str} (h : (bothK a b).map Prod.fst = L) (hL : AscS L) : ksR a b = L :=
  asc_unique (ksR_asc a b) hL fun k => by unfold ksR sortS; rw [(List.mergeSort_perm _ _).mem_iff, h]
theorem ks1 : ksR [cA, cB] [cB2, cC] = [[97], [98], [99]] := ksR_of (by decide +kernel) (by unfold AscS; decide)
theorem ks2 : ksR [cB2, cC] [] = [[98], [99]] := ksR_of (by decide +kernel) (by unfold AscS; decide)
theorem top3 (x y z : Int) : topD [x, y, z] = 2 := by
  unfold topD
  rw [levR_more (by simp), levR_more (by simp [upR]), levR_one (by simp [upR])]
  rfl
theorem top2 (x y : Int) : topD [x, y] = 1 := by
  unfold topD
  rw [levR_more (by simp), levR_one (by simp [upR])]
  rfl
theorem pl1 : placesR [cA, cB] [cB2, cC] = [0, 1, 2] := by
  unfold placesR
  rw [ks1]
  have e1 : [[97], [98], [99]].map (leafK [cA, cB]) = [leafR cA, leafR cB, 0] := rfl
  have e2 : [[97], [98], [99]].map (leafK [cB2, cC]) = [0, leafR cB2, leafR cC] := rfl
  rw [e1, e2, lA, lB, lB2, lC]
  unfold diffR
  rw [top3]
  decide +kernel
theorem pl2 : placesR [cB2, cC] [] = [0, 1] := by
  unfold placesR
  rw [ks2]
  have e1 : [[98], [99]].map (leafK [cB2, cC]) = [leafR cB2, leafR cC] := rfl
  have e2 : [[98], [99]].map (leafK []) = [0, 0] := rfl
  rw [e1, e2, lB2, lC]
  unfold diffR
  rw [top2]
  decide +kernel
theorem loc1 : locR [cA, cB] [cB2, cC] = [⟨[97], 1, 100, 0⟩, ⟨[98], 1, 200, 250⟩, ⟨[99], 1, 0, 300⟩] := by
  unfold locR
  rw [pl1, ks1]
  rfl
theorem loc2 : locR [cB2, cC] [] = [⟨[98], 1, 250, 0⟩, ⟨[99], 1, 300, 0⟩] := by
  unfold locR
  rw [pl2, ks2]
  rfl
theorem loc_self (a : List Tapi_Charge) : locR a a = [] := by
  unfold locR placesR
  rw [diffR_self]; rfl
theorem awk_sort : sortI (List.map Prod.fst (mrgK Prod.fst (setK Prod.fst ([] : List (Int × Int)) (1, 300)) (setK Prod.fst ([] : List (Int × Int)) (1, 550)))) = [1] := by
  have e : List.map Prod.fst (mrgK Prod.fst (setK Prod.fst ([] : List (Int × Int)) (1, 300)) (setK Prod.fst ([] : List (Int × Int)) (1, 550))) = [1] := rfl
  rw [e]; unfold sortI; simp
theorem awk_sk : SkI (List.map Prod.fst (mrgK Prod.fst (setK Prod.fst ([] : List (Int × Int)) (1, 300)) (setK Prod.fst ([] : List (Int × Int)) (1, 550)))) := by
  have e : List.map Prod.fst (mrgK Prod.fst (setK Prod.fst ([] : List (Int × Int)) (1, 300)) (setK Prod.fst ([] : List (Int × Int)) (1, 550))) = [1] := rfl
  rw [e]; unfold SkI; decide
theorem awk_days : lp tollwaylaw50_awake_L12_step ((0 : Nat), ([] : List Tapi_Finding)) = some [⟨[], 1, 300, 550⟩] := by
  rw [lp_go (s' := (1, [⟨[], 1, 300, 550⟩]))]
  · refine lp_end ?_
    unfold tollwaylaw50_awake_L12_step
    dsimp only
    rw [awk_sort]
    exact ite_f (by decide) rfl
  · unfold tollwaylaw50_awake_L12_step
    dsimp only
    rw [awk_sort]
    exact ite_t (by decide) (bind_i rfl (ite_t rfl (bind_i rfl (ite_t rfl (bind_i rfl (ite_f (by decide) (guard_i (by decide) (guard_i (by decide) rfl))))))))
theorem awk_lost : lostR [cA, cB] [cB2, cC] = 300 := by decide +kernel
theorem awake_true : tollwaylaw50_awake = some true := by
  unfold tollwaylaw50_awake
  refine bind_i (Leaves_eq (l := [cK]) (by decide) (by decide) (by decide)) (ite_t rfl (bind_i rfl (bind_i (refHash_eq (by decide)) (ite_t dK ?_))))
  have L1 : audit_Locate [cA, cB] [cB2, cC] = some [⟨[97], 1, 100, 0⟩, ⟨[98], 1, 200, 250⟩, ⟨[99], 1, 0, 300⟩] := by rw [Locate_eq lAB lBC, loc1]
  have L2 : audit_Locate [cB2, cC] [cB2, cC] = some [] := by rw [Locate_eq lBC lBC, loc_self]
  have L3 : audit_Locate [cB2, cC] [] = some [⟨[98], 1, 250, 0⟩, ⟨[99], 1, 300, 0⟩] := by rw [Locate_eq lBC lN, loc2]
  have L4 : audit_Lost [cA, cB] [cB2, cC] = some 300 := by rw [Lost_eq (a := [cA, cB]) (b := [cB2, cC]) (by decide) (by decide), awk_lost]
  refine bind_i L1 (guard_i awk_sk (bind_i awk_days ?_))
  refine bind_i L2 (bind_i L3 (bind_i L3 ?_))
  refine ite_t rfl (ite_t rfl (bind_i rfl (ite_t rfl (ite_t rfl (ite_t rfl (bind_i (sameFind_refl (by decide)) (ite_t rfl (bind_i (sameFind_refl (by decide)) (ite_t rfl (bind_i L4 rfl))))))))))
end Go.Proofs.YtpadimnchmghpaaGreatDoor.Av
