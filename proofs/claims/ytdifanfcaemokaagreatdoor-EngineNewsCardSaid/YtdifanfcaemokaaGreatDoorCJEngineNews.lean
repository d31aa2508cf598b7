import Derived.Test.YtdifanfcaemokaaGreatDoorAvYW
import Derived.Test.YtdifanfcaemokaaGreatDoorCLd
import Derived.Test.YtdifanfcaemokaaGreatDoorCKEngineNews
import Derived.Test.YtdifanfcaemokaaGreatDoorRows
open Prod (fst)
open Int (tdiv tmod)
set_option maxHeartbeats 4000000
set_option maxRecDepth 100000
set_option linter.unusedVariables false
set_option linter.unusedSimpArgs false
namespace Go.Proofs.YtdifanfcaemokaaGreatDoor.Av
open Go Go.Proofs Go.ChangeShapes Go.WideShapes Go.ChangeAt Go.RowKit Go.Proofs.YtdifanfcaemokaaGreatDoor
theorem Hf {a b:Bool} (h1:a=true) (h2:b=true):(a&&b)=true:=by rw [h1,h2]; rfl
theorem Ye:joinedFacts Tryz.pinned.checked.prog 3 Tryz.f3 (OpenSpec.ofChange Rows.engineNewsSpec).bare Rows.engineNewsRow=true:=by
 have hc:Tryz.pinned.checked.prog.closure 3=Tryz.prog.closure 3:=rfl
 unfold joinedFacts
 refine (Hf (Hf (Hf (Hf (Hf (Hf (Hf (Hf (Hf (Hf (Hf (Hf (Hf (Hf (Hf (Hf (Hf (Hf (Hf (Hf (Hf (Hf (Hf (Hf (Hf (Hf (Hf (Hf (Hf (Hf (Hf ?k1 ?k2) ?k3) ?k4) ?k5) ?k6) ?k7) ?k8) ?k9) ?k10) ?k11) ?k12) ?k13) ?k14) ?k15) ?k16) ?k17) ?k18) ?k19) ?k20) ?k21) ?k22) ?k23) ?k24) ?k25) ?k26) ?k27) ?k28) ?k29) ?k30) ?k31) ?k32)
 case k2=>exact Gs3
 case k10=>unfold Program.inPlace; rw [hc,Vt]; as_aux_lemma=>kernel_rfl
 case k11=>unfold Program.unfollowed; rw [hc,Vt]; as_aux_lemma=>kernel_rfl
 case k12=>unfold Program.recurses Program.unfollowed; rw [hc,Vt]; as_aux_lemma=>kernel_rfl
 case k13=>unfold Program.varsNamed; rw [hc,Vt]; as_aux_lemma=>kernel_rfl
 all_goals (as_aux_lemma=>kernel_rfl)
end Go.Proofs.YtdifanfcaemokaaGreatDoor.Av
