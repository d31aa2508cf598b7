import Derived.Test.YtpadimnchmghpaaGreatDoorCADays
open Prod (fst)
open Int (tdiv tmod)
set_option maxHeartbeats 4000000
set_option maxRecDepth 100000
set_option linter.unusedVariables false
set_option linter.unusedSimpArgs false
namespace Go.Proofs.YtpadimnchmghpaaGreatDoor.Av
open Go Go.Proofs Go.ChangeShapes Go.WideShapes Go.ChangeAt Go.RowKit Go.Proofs.YtpadimnchmghpaaGreatDoor
theorem w5AuditDays_own : ownKnob Tryz.prog.godebug = none := by kernel_rfl
noncomputable def w5AuditDays_world (os : Os) : World := { World.holding Tryz.prog os ⟨#[], #[], []⟩ with heap := setTab 3 (tabV (H := Unit) Rows.laid_tollway_clock_months) (setTab 4 (tabV (H := Unit) Rows.laid_internal_strconv_uint64pow10) (setTab 5 (tabV (H := Unit) Rows.laid_math_bits_deBruijn32tab) (setTab 6 (tabV (H := Unit) Rows.laid_math_bits_deBruijn64tab) ((World.holding Tryz.prog os ⟨#[], #[], []⟩).heap)))) }
def w5AuditDays_zero : Array Value := #[Value.slice none 0 0, Value.slice none 0 0]
theorem w5AuditDays_met (os : Os) : laidMet Tryz.prog Rows.auditDaysRow.laid ((w5AuditDays_world os).forCall (fun _ _ => 0) ⟨#[], w5AuditDays_zero, []⟩).memory :=
 laidMet_of_run' 8 (by kernel_rfl) (by kernel_rfl)
theorem w5AuditDays_reads (os : Os) {H : Type} (enc : TypeId × Value → H) : ∃ places, DataW.whole enc Tryz.prog ((w5AuditDays_world os).forCall (fun _ _ => 0) ⟨#[], w5AuditDays_zero, []⟩).memory Tryz.f5.params.toList Rows.auditDaysSpec.vars false (w5AuditDays_zero).toList 7 = some ([.nil, .nil], [], places) :=
 ⟨[], by kernel_rfl⟩
set_option maxRecDepth 100000 in
theorem w5AuditDays_lifted (os : Os) (started : os.Started) (H : Type) (enc : TypeId × Value → H) (F : Stop.Interp) :
  ReturnsInHanded {} Tryz.checked os 5 .any ((OpenSpec.ofChange Rows.auditDaysSpec).preRow enc Tryz.prog Tryz.f5 Rows.auditDaysRow.domain false Rows.auditDaysRow.laid) (((OpenSpec.ofChange Rows.auditDaysSpec).at F).post enc Tryz.prog Tryz.f5 false true false false) := by
 obtain ⟨places, hx⟩ := w5AuditDays_reads os enc
 refine returnsInHanded_of_row (C := Tryz.checked) (s := OpenSpec.ofChange Rows.auditDaysSpec) w5AuditDays_own started (by kernel_rfl) Tryz.func5
  (witness_row_at (enc := enc) (C := Tryz.checked) false (w5AuditDays_world os) w5AuditDays_zero rfl (by kernel_rfl) (by kernel_rfl) (by kernel_rfl)
   (OpenSpec.preRow_of_cond 7 hx (by kernel_rfl) (fun k hk => by cases hk) (by kernel_rfl) (w5AuditDays_met os))) ?_
 intro W base args ds gs before hval hW _ _ hz hL _ _
 exact w5AuditDays_contract H enc W base args ds gs before hval hW
end Go.Proofs.YtpadimnchmghpaaGreatDoor.Av
