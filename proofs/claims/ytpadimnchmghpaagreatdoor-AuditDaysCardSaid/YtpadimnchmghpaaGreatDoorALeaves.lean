import Derived.Test.YtpadimnchmghpaaGreatDoorW0
open Prod (fst)
open Int (tdiv tmod)
set_option maxHeartbeats 4000000
set_option maxRecDepth 100000
set_option linter.unusedVariables false
set_option linter.unusedSimpArgs false
namespace Go.Proofs.YtpadimnchmghpaaGreatDoor.Av
open Go Go.Proofs
end Go.Proofs.YtpadimnchmghpaaGreatDoor.Av
