/- TraceDetections: its row. -/
import Derived.Test.YtalobodhbbkgdabDoorCATraceDetections
import Derived.Test.YtalobodhbbkgdabDoorRows
import Derived.Lib.LaidTab
set_option linter.unusedVariables false
set_option linter.unusedSimpArgs false
set_option maxHeartbeats 4000000
set_option maxRecDepth 100000
namespace Go.Proofs.YtalobodhbbkgdabDoor.Av
open Go Go.Proofs Go.ChangeShapes Go.WideShapes Go.ChangeAt Go.RowKit Go.Proofs.YtalobodhbbkgdabDoor
theorem tollwaylaw52_TraceDetections_own : ownKnob Tryd.prog.godebug = none := by kernel_rfl
noncomputable def tollwaylaw52_TraceDetections_world (os : Os) : World := { World.holding Tryd.prog os ⟨#[], #[], []⟩ with heap := setTab 1 (tabV (H := Unit) Rows.laid_math_bits_deBruijn32tab) (setTab 2 (tabV (H := Unit) Rows.laid_math_bits_deBruijn64tab) (setTab 0 (tabV (H := Unit) Rows.laid_internal_strconv_uint64pow10) ((World.holding Tryd.prog os ⟨#[], #[], []⟩).heap))) }
def tollwaylaw52_TraceDetections_zero : Array Value := #[Value.agg #[.slice none 0 0, .slice none 0 0, .slice none 0 0, .slice none 0 0, .slice none 0 0, .slice none 0 0, .int .i64 0, .int .i64 0, .slice none 0 0, .int .i64 0, .slice none 0 0, .slice none 0 0, .slice none 0 0, .slice none 0 0, .slice none 0 0, .slice none 0 0, .slice none 0 0, .slice none 0 0, .slice none 0 0, .slice none 0 0, .slice none 0 0, .slice none 0 0, .int .i64 0, .slice none 0 0, .string ⟨#[]⟩, .slice none 0 0, .slice none 0 0, .slice none 0 0, .int .i64 0, .slice none 0 0, .slice none 0 0, .slice none 0 0, .slice none 0 0, .slice none 0 0, .slice none 0 0, .slice none 0 0, .slice none 0 0, .slice none 0 0, .int .i64 0], Value.agg #[.string ⟨#[]⟩, .int .i64 0]]
theorem tollwaylaw52_TraceDetections_met (os : Os) : laidMet Tryd.prog Rows.traceDetectionsRow.laid ((tollwaylaw52_TraceDetections_world os).forCall (fun _ _ => 0) ⟨#[], tollwaylaw52_TraceDetections_zero, []⟩).memory :=
  laidMet_of_run' 8 (by kernel_rfl) (by kernel_rfl)
theorem tollwaylaw52_TraceDetections_reads (os : Os) {H : Type} (enc : TypeId × Value → H) : ∃ places, DataW.whole enc Tryd.prog ((tollwaylaw52_TraceDetections_world os).forCall (fun _ _ => 0) ⟨#[], tollwaylaw52_TraceDetections_zero, []⟩).memory Tryd.f3.params.toList Rows.traceDetectionsSpec.vars false (tollwaylaw52_TraceDetections_zero).toList 10 = some ([.agg [.agg [.agg [.agg [.nil, .nil], .nil], .nil, .nil, .nil, .lit (.int .i64 0), .lit (.int .i64 0), .nil, .agg [.lit (.int .i64 0), .nil, .nil, .nil], .nil, .nil, .nil, .nil, .nil, .nil, .nil, .agg [.nil, .nil, .lit (.int .i64 0)], .nil, .lit (.string [])], .nil, .nil, .nil, .lit (.int .i64 0), .agg [.nil, .nil, .nil, .nil, .nil, .nil], .agg [.agg [.nil], .nil], .nil, .lit (.int .i64 0)], .agg [.lit (.string []), .lit (.int .i64 0)]], [], places) :=
  ⟨[], by kernel_rfl⟩
set_option maxRecDepth 100000 in
theorem tollwaylaw52_TraceDetections_lifted (os : Os) (started : os.Started) (H : Type) (enc : TypeId × Value → H) (F : Stop.Interp) :
    ReturnsInHanded {} Tryd.checked os 3 .any ((OpenSpec.ofChange Rows.traceDetectionsSpec).preRow enc Tryd.prog Tryd.f3 Rows.traceDetectionsRow.domain false Rows.traceDetectionsRow.laid) (((OpenSpec.ofChange Rows.traceDetectionsSpec).at F).post enc Tryd.prog Tryd.f3 false true false false) := by
  obtain ⟨places, hx⟩ := tollwaylaw52_TraceDetections_reads os enc
  refine returnsInHanded_of_row (C := Tryd.checked) (s := OpenSpec.ofChange Rows.traceDetectionsSpec) tollwaylaw52_TraceDetections_own started (by kernel_rfl) Tryd.func3
    (witness_row_at (enc := enc) (C := Tryd.checked) false (tollwaylaw52_TraceDetections_world os) tollwaylaw52_TraceDetections_zero rfl (by kernel_rfl) (by kernel_rfl) (by kernel_rfl)
      (OpenSpec.preRow_of_cond 10 hx (by kernel_rfl) (fun k hk => by cases hk) (by kernel_rfl) (tollwaylaw52_TraceDetections_met os))) ?_
  intro W base args ds gs before hval hW _ _ hz hL _ _
  exact tollwaylaw52_TraceDetections_contract H enc W base args ds gs before hval hW hL hz

end Go.Proofs.YtalobodhbbkgdabDoor.Av
