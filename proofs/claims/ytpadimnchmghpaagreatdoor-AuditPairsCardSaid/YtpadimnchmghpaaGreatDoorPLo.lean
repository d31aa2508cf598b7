/- The audit: the law AuditLocates is true. (Plain.) -/
import Derived.Test.YtpadimnchmghpaaGreatDoorPLv
import Derived.Test.YtpadimnchmghpaaGreatDoorALocates
set_option linter.unusedVariables false
set_option linter.unusedSimpArgs false
set_option maxHeartbeats 1000000
namespace Go.Proofs.YtpadimnchmghpaaGreatDoor.Av
open Go Go.Proofs
end Go.Proofs.YtpadimnchmghpaaGreatDoor.Av
