/- AuditLocates: its row. -/
import Derived.Test.YtpadimnchmghpaaGreatDoorCALocates
import Derived.Test.YtpadimnchmghpaaGreatDoorRows
import Derived.Lib.LaidTab
set_option linter.unusedVariables false
set_option linter.unusedSimpArgs false
set_option maxHeartbeats 4000000
set_option maxRecDepth 100000
namespace Go.Proofs.YtpadimnchmghpaaGreatDoor.Av
open Go Go.Proofs Go.ChangeShapes Go.WideShapes Go.ChangeAt Go.RowKit Go.Proofs.YtpadimnchmghpaaGreatDoor
theorem tollwaylaw50_AuditLocates_own : ownKnob Tryz.prog.godebug = none := by kernel_rfl
noncomputable def tollwaylaw50_AuditLocates_world (os : Os) : World := { World.holding Tryz.prog os ⟨#[], #[], []⟩ with heap := setTab 3 (tabV (H := Unit) Rows.laid_tollway_clock_months) (setTab 4 (tabV (H := Unit) Rows.laid_internal_strconv_uint64pow10) (setTab 5 (tabV (H := Unit) Rows.laid_math_bits_deBruijn32tab) (setTab 6 (tabV (H := Unit) Rows.laid_math_bits_deBruijn64tab) ((World.holding Tryz.prog os ⟨#[], #[], []⟩).heap)))) }
def tollwaylaw50_AuditLocates_zero : Array Value := #[Value.slice none 0 0, Value.slice none 0 0]
theorem tollwaylaw50_AuditLocates_met (os : Os) : laidMet Tryz.prog Rows.auditLocatesRow.laid ((tollwaylaw50_AuditLocates_world os).forCall (fun _ _ => 0) ⟨#[], tollwaylaw50_AuditLocates_zero, []⟩).memory :=
  laidMet_of_run' 8 (by kernel_rfl) (by kernel_rfl)
theorem tollwaylaw50_AuditLocates_reads (os : Os) {H : Type} (enc : TypeId × Value → H) : ∃ places, DataW.whole enc Tryz.prog ((tollwaylaw50_AuditLocates_world os).forCall (fun _ _ => 0) ⟨#[], tollwaylaw50_AuditLocates_zero, []⟩).memory Tryz.f4.params.toList Rows.auditLocatesSpec.vars false (tollwaylaw50_AuditLocates_zero).toList 7 = some ([.nil, .nil], [], places) :=
  ⟨[], by kernel_rfl⟩
set_option maxRecDepth 100000 in
theorem tollwaylaw50_AuditLocates_lifted (os : Os) (started : os.Started) (H : Type) (enc : TypeId × Value → H) (F : Stop.Interp) :
    ReturnsInHanded {} Tryz.checked os 4 .any ((OpenSpec.ofChange Rows.auditLocatesSpec).preRow enc Tryz.prog Tryz.f4 Rows.auditLocatesRow.domain false Rows.auditLocatesRow.laid) (((OpenSpec.ofChange Rows.auditLocatesSpec).at F).post enc Tryz.prog Tryz.f4 false true false false) := by
  obtain ⟨places, hx⟩ := tollwaylaw50_AuditLocates_reads os enc
  refine returnsInHanded_of_row (C := Tryz.checked) (s := OpenSpec.ofChange Rows.auditLocatesSpec) tollwaylaw50_AuditLocates_own started (by kernel_rfl) Tryz.func4
    (witness_row_at (enc := enc) (C := Tryz.checked) false (tollwaylaw50_AuditLocates_world os) tollwaylaw50_AuditLocates_zero rfl (by kernel_rfl) (by kernel_rfl) (by kernel_rfl)
      (OpenSpec.preRow_of_cond 7 hx (by kernel_rfl) (fun k hk => by cases hk) (by kernel_rfl) (tollwaylaw50_AuditLocates_met os))) ?_
  intro W base args ds gs before hval hW _ _ hz hL _ _
  exact tollwaylaw50_AuditLocates_contract H enc W base args ds gs before hval hW
end Go.Proofs.YtpadimnchmghpaaGreatDoor.Av
