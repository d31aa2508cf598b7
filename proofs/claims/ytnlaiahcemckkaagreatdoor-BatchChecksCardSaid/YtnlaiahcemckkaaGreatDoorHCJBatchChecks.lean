import Derived.Test.YtnlaiahcemckkaaGreatDoorHAvYW
import Derived.Test.YtnlaiahcemckkaaGreatDoorHCLd
import Derived.Test.YtnlaiahcemckkaaGreatDoorHCKBatchChecks
import Derived.Test.YtnlaiahcemckkaaGreatDoorRows
open Prod (fst)
open Int (tdiv tmod)
set_option maxHeartbeats 4000000
set_option maxRecDepth 100000
set_option linter.unusedVariables false
set_option linter.unusedSimpArgs false
namespace Go.Proofs.YtnlaiahcemckkaaGreatDoor.Av
open Go Go.Proofs Go.ChangeShapes Go.WideShapes Go.ChangeAt Go.RowKit Go.Proofs.YtnlaiahcemckkaaGreatDoor
theorem G8 {a b:Bool} (h1:a=true) (h2:b=true):(a&&b)=true:=by rw [h1,h2]; rfl
theorem Vr:joinedFacts Tryz.pinned.checked.prog 4 Tryz.f4 (OpenSpec.ofChange Rows.batchChecksSpec).bare Rows.batchChecksRow=true:=by
 have hc:Tryz.pinned.checked.prog.closure 4=Tryz.prog.closure 4:=rfl
 unfold joinedFacts
 refine (G8 (G8 (G8 (G8 (G8 (G8 (G8 (G8 (G8 (G8 (G8 (G8 (G8 (G8 (G8 (G8 (G8 (G8 (G8 (G8 (G8 (G8 (G8 (G8 (G8 (G8 (G8 (G8 (G8 (G8 (G8 ?k1 ?k2) ?k3) ?k4) ?k5) ?k6) ?k7) ?k8) ?k9) ?k10) ?k11) ?k12) ?k13) ?k14) ?k15) ?k16) ?k17) ?k18) ?k19) ?k20) ?k21) ?k22) ?k23) ?k24) ?k25) ?k26) ?k27) ?k28) ?k29) ?k30) ?k31) ?k32)
 case k2=>exact Gra
 case k10=>unfold Program.inPlace; rw [hc,RO]; as_aux_lemma=>kernel_rfl
 case k11=>unfold Program.unfollowed; rw [hc,RO]; as_aux_lemma=>kernel_rfl
 case k12=>unfold Program.recurses Program.unfollowed; rw [hc,RO]; as_aux_lemma=>kernel_rfl
 case k13=>unfold Program.varsNamed; rw [hc,RO]; as_aux_lemma=>kernel_rfl
 all_goals (as_aux_lemma=>kernel_rfl)
end Go.Proofs.YtnlaiahcemckkaaGreatDoor.Av
