import Derived.Test.YtpadimnchmghpaaGreatDoorPAw
import Derived.Test.YtpadimnchmghpaaGreatDoorRA
import Derived.Test.YtpadimnchmghpaaGreatDoorALeaves
open Prod (fst)
open Int (tdiv tmod)
set_option maxHeartbeats 1000000
set_option linter.unusedVariables false
set_option linter.unusedSimpArgs false
namespace Go.Proofs.YtpadimnchmghpaaGreatDoor.Av
open Go Go.Proofs
theorem wf_ChW {x : TC} (h : TC.wf x) : ChW x := ⟨h.2.2.2.1, h.2.2.2.2.1, h.2.2.2.2.2.2, fun l hl => (h.2.2.2.2.2.1.2 l hl).2⟩
theorem wf_ChS {x : TC} (h : TC.wf x) : ChS x := h.2.2.2.2.2.1.1
theorem few_wf {l : List TC} (hw : lwf TC.wf l) : ∃ b, w5few l = some b ∧ (b = true → ChL l) := by
 obtain ⟨b, h1, h2⟩ := few_tot (l := l) hw.1 (fun x hx => wf_ChS (hw.2 x hx))
 exact ⟨b, h1, fun hb => ⟨(h2 hb).1, fun x hx => wf_ChW (hw.2 x hx), (h2 hb).2⟩⟩
end Go.Proofs.YtpadimnchmghpaaGreatDoor.Av
