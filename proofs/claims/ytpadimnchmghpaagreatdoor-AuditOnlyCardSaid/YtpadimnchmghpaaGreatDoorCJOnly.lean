/- AuditOnly: what is asked of the row in closed form. -/
import Derived.Test.YtpadimnchmghpaaGreatDoorAvZ
import Derived.Test.YtpadimnchmghpaaGreatDoorCKn
import Derived.Test.YtpadimnchmghpaaGreatDoorRows
set_option linter.unusedVariables false
set_option linter.unusedSimpArgs false
set_option maxHeartbeats 4000000
set_option maxRecDepth 100000
namespace Go.Proofs.YtpadimnchmghpaaGreatDoor.Av
open Go Go.Proofs Go.ChangeShapes Go.WideShapes Go.ChangeAt Go.RowKit Go.Proofs.YtpadimnchmghpaaGreatDoor
theorem and_intro {a b : Bool} (h1 : a = true) (h2 : b = true) : (a && b) = true := by rw [h1, h2]; rfl
theorem tollwaylaw50_AuditOnly_joined : joinedFacts Tryz.pinned.checked.prog 6 Tryz.f6 (OpenSpec.ofChange Rows.auditOnlySpec).bare Rows.auditOnlyRow = true := by
  unfold joinedFacts
  refine (and_intro (and_intro (and_intro (and_intro (and_intro (and_intro (and_intro (and_intro (and_intro (and_intro (and_intro (and_intro (and_intro (and_intro (and_intro (and_intro (and_intro (and_intro (and_intro (and_intro (and_intro (and_intro (and_intro (and_intro (and_intro (and_intro (and_intro (and_intro (and_intro (and_intro (and_intro ?k1 ?k2) ?k3) ?k4) ?k5) ?k6) ?k7) ?k8) ?k9) ?k10) ?k11) ?k12) ?k13) ?k14) ?k15) ?k16) ?k17) ?k18) ?k19) ?k20) ?k21) ?k22) ?k23) ?k24) ?k25) ?k26) ?k27) ?k28) ?k29) ?k30) ?k31) ?k32)
  case k2 => exact laid_out
  case k10 => unfold Program.inPlace; rw [Only_cloP]; as_aux_lemma => kernel_rfl
  case k11 => unfold Program.unfollowed; rw [Only_cloP]; as_aux_lemma => kernel_rfl
  case k12 => unfold Program.recurses Program.unfollowed; rw [Only_cloP]; as_aux_lemma => kernel_rfl
  case k13 => unfold Program.varsNamed; rw [Only_cloP]; as_aux_lemma => kernel_rfl
  all_goals (as_aux_lemma => kernel_rfl)
end Go.Proofs.YtpadimnchmghpaaGreatDoor.Av
