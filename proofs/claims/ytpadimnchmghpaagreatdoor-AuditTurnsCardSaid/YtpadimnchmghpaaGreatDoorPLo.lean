import Derived.Test.YtpadimnchmghpaaGreatDoorPLv
import Derived.Test.YtpadimnchmghpaaGreatDoorALocates
open Prod (fst)
open Int (tdiv tmod)
set_option linter.unusedVariables false
set_option linter.unusedSimpArgs false
set_option maxHeartbeats 1000000
namespace Go.Proofs.YtpadimnchmghpaaGreatDoor.Av
open Go Go.Proofs
theorem locR_len {a b : List TC} (ha : ChL a) (hb : ChL b) : (locR a b).length ≤ 64 := by
  unfold locR
  rw [List.length_map]
  have := ksR_len a b
  have := ha.1
  have := hb.1
  exact places_len a b (by omega)
end Go.Proofs.YtpadimnchmghpaaGreatDoor.Av
