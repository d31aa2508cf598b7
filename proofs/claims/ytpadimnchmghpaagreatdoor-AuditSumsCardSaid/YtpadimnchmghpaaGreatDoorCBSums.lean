import Derived.Test.YtpadimnchmghpaaGreatDoorCASums
import Derived.Test.YtpadimnchmghpaaGreatDoorRows
import Derived.Lib.LaidTab
open Prod (fst)
open Int (tdiv tmod)
set_option linter.unusedVariables false
set_option linter.unusedSimpArgs false
set_option maxHeartbeats 4000000
set_option maxRecDepth 100000
namespace Go.Proofs.YtpadimnchmghpaaGreatDoor.Av
open Go Go.Proofs Go.ChangeShapes Go.WideShapes Go.ChangeAt Go.RowKit Go.Proofs.YtpadimnchmghpaaGreatDoor
theorem w5AuditSums_own : ownKnob Tryz.prog.godebug = none := by kernel_rfl
noncomputable def w5AuditSums_world (os : Os) : World := { World.holding Tryz.prog os ⟨#[], #[], []⟩ with heap := setTab 3 (tabV (H := Unit) Rows.laid_tollway_clock_months) (setTab 4 (tabV (H := Unit) Rows.laid_internal_strconv_uint64pow10) (setTab 5 (tabV (H := Unit) Rows.laid_math_bits_deBruijn32tab) (setTab 6 (tabV (H := Unit) Rows.laid_math_bits_deBruijn64tab) ((World.holding Tryz.prog os ⟨#[], #[], []⟩).heap)))) }
def w5AuditSums_zero : Array Value := #[Value.slice none 0 0, Value.slice none 0 0, Value.int .i64 0]
theorem w5AuditSums_met (os : Os) : laidMet Tryz.prog Rows.auditSumsRow.laid ((w5AuditSums_world os).forCall (fun _ _ => 0) ⟨#[], w5AuditSums_zero, []⟩).memory :=
  laidMet_of_run' 8 (by kernel_rfl) (by kernel_rfl)
theorem w5AuditSums_reads (os : Os) {H : Type} (enc : TypeId × Value → H) : ∃ places, DataW.whole enc Tryz.prog ((w5AuditSums_world os).forCall (fun _ _ => 0) ⟨#[], w5AuditSums_zero, []⟩).memory Tryz.f9.params.toList Rows.auditSumsSpec.vars false (w5AuditSums_zero).toList 7 = some ([.nil, .nil, .lit (.int .i64 0)], [], places) :=
  ⟨[], by kernel_rfl⟩
set_option maxRecDepth 100000 in
theorem w5AuditSums_lifted (os : Os) (started : os.Started) (H : Type) (enc : TypeId × Value → H) (F : Stop.Interp) :
    ReturnsInHanded {} Tryz.checked os 9 .any ((OpenSpec.ofChange Rows.auditSumsSpec).preRow enc Tryz.prog Tryz.f9 Rows.auditSumsRow.domain false Rows.auditSumsRow.laid) (((OpenSpec.ofChange Rows.auditSumsSpec).at F).post enc Tryz.prog Tryz.f9 false true false false) := by
  obtain ⟨places, hx⟩ := w5AuditSums_reads os enc
  refine returnsInHanded_of_row (C := Tryz.checked) (s := OpenSpec.ofChange Rows.auditSumsSpec) w5AuditSums_own started (by kernel_rfl) Tryz.func9
    (witness_row_at (enc := enc) (C := Tryz.checked) false (w5AuditSums_world os) w5AuditSums_zero rfl (by kernel_rfl) (by kernel_rfl) (by kernel_rfl)
      (OpenSpec.preRow_of_cond 7 hx (by kernel_rfl) (fun k hk => by cases hk) (by kernel_rfl) (w5AuditSums_met os))) ?_
  intro W base args ds gs before hval hW _ _ hz hL _ _
  exact w5AuditSums_contract H enc W base args ds gs before hval hW
end Go.Proofs.YtpadimnchmghpaaGreatDoor.Av
