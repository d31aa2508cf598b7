import Derived.Test.YtpadimnchmghpaaGreatDoorAvZ
import Derived.Test.YtpadimnchmghpaaGreatDoorProg
import Derived.Tactics
import Derived.Test.YtpadimnchmghpaaGreatDoorN3
open Prod (fst)
open Int (tdiv tmod)
set_option linter.unusedVariables false
set_option linter.unusedSimpArgs false
set_option maxHeartbeats 4000000
set_option maxRecDepth 100000
namespace Go.Proofs.YtpadimnchmghpaaGreatDoor.Av
open Go Go.Proofs
noncomputable def w5of_L3_step (day_1 : Int) (r1 : ((List Int) × (List Int))) : Nat → Option (Nat ⊕ (Int ⊕ Unit)) := fun k7 =>
  if (↑k7 : Int) < (↑r1.1.length : Int) then
    if (↑k7 : Int) < (↑r1.2.length : Int) then
      (r1.1[k7]?).bind fun x14 =>
      if x14 = day_1 then
        (r1.2[k7]?).bind fun x17 =>
        some (Sum.inr (Sum.inl x17))
      else
        if InR .i64 ((↑k7 : Int) + 1) then
          some (Sum.inl (k7 + 1))
        else none
    else
      some (Sum.inr (Sum.inr (())))
  else
    some (Sum.inr (Sum.inr (())))
noncomputable def w5of (l_0 : (List TC)) (day_1 : Int) : Option Int :=
  (bill_Days l_0).bind fun r1 =>
  (lp (w5of_L3_step day_1 r1) (0 : Nat)).bind fun qq => match qq with
  | Sum.inl o3 =>
    some o3
  | Sum.inr (o3) =>
    some 0
end Go.Proofs.YtpadimnchmghpaaGreatDoor.Av
