/- TraceCharges: its row. -/
import Derived.Test.YtalobodhbbkgdabDoorCATraceCharges
import Derived.Test.YtalobodhbbkgdabDoorRows
import Derived.Lib.LaidTab
set_option linter.unusedVariables false
set_option linter.unusedSimpArgs false
set_option maxHeartbeats 4000000
set_option maxRecDepth 100000
namespace Go.Proofs.YtalobodhbbkgdabDoor.Av
open Go Go.Proofs Go.ChangeShapes Go.WideShapes Go.ChangeAt Go.RowKit Go.Proofs.YtalobodhbbkgdabDoor
theorem tollwaylaw52_TraceCharges_own : ownKnob Tryd.prog.godebug = none := by kernel_rfl
noncomputable def tollwaylaw52_TraceCharges_world (os : Os) : World := { World.holding Tryd.prog os ⟨#[], #[], []⟩ with heap := setTab 1 (tabV (H := Unit) Rows.laid_math_bits_deBruijn32tab) (setTab 2 (tabV (H := Unit) Rows.laid_math_bits_deBruijn64tab) (setTab 0 (tabV (H := Unit) Rows.laid_internal_strconv_uint64pow10) ((World.holding Tryd.prog os ⟨#[], #[], []⟩).heap))) }
def tollwaylaw52_TraceCharges_zero : Array Value := #[Value.agg #[.slice none 0 0, .slice none 0 0, .slice none 0 0, .slice none 0 0, .slice none 0 0, .slice none 0 0, .int .i64 0, .int .i64 0, .slice none 0 0, .int .i64 0, .slice none 0 0, .slice none 0 0, .slice none 0 0, .slice none 0 0, .slice none 0 0, .slice none 0 0, .slice none 0 0, .slice none 0 0, .slice none 0 0, .slice none 0 0, .slice none 0 0, .slice none 0 0, .int .i64 0, .slice none 0 0, .string ⟨#[]⟩, .slice none 0 0, .slice none 0 0, .slice none 0 0, .int .i64 0, .slice none 0 0, .slice none 0 0, .slice none 0 0, .slice none 0 0, .slice none 0 0, .slice none 0 0, .slice none 0 0, .slice none 0 0, .slice none 0 0, .int .i64 0], Value.string ⟨#[]⟩]
theorem tollwaylaw52_TraceCharges_met (os : Os) : laidMet Tryd.prog Rows.traceChargesRow.laid ((tollwaylaw52_TraceCharges_world os).forCall (fun _ _ => 0) ⟨#[], tollwaylaw52_TraceCharges_zero, []⟩).memory :=
  laidMet_of_run' 8 (by kernel_rfl) (by kernel_rfl)
theorem tollwaylaw52_TraceCharges_reads (os : Os) {H : Type} (enc : TypeId × Value → H) : ∃ places, DataW.whole enc Tryd.prog ((tollwaylaw52_TraceCharges_world os).forCall (fun _ _ => 0) ⟨#[], tollwaylaw52_TraceCharges_zero, []⟩).memory Tryd.f4.params.toList Rows.traceChargesSpec.vars false (tollwaylaw52_TraceCharges_zero).toList 10 = some ([.agg [.agg [.agg [.agg [.nil, .nil], .nil], .nil, .nil, .nil, .lit (.int .i64 0), .lit (.int .i64 0), .nil, .agg [.lit (.int .i64 0), .nil, .nil, .nil], .nil, .nil, .nil, .nil, .nil, .nil, .nil, .agg [.nil, .nil, .lit (.int .i64 0)], .nil, .lit (.string [])], .nil, .nil, .nil, .lit (.int .i64 0), .agg [.nil, .nil, .nil, .nil, .nil, .nil], .agg [.agg [.nil], .nil], .nil, .lit (.int .i64 0)], .lit (.string [])], [], places) :=
  ⟨[], by kernel_rfl⟩
set_option maxRecDepth 100000 in
theorem tollwaylaw52_TraceCharges_lifted (os : Os) (started : os.Started) (H : Type) (enc : TypeId × Value → H) (F : Stop.Interp) :
    ReturnsInHanded {} Tryd.checked os 4 .any ((OpenSpec.ofChange Rows.traceChargesSpec).preRow enc Tryd.prog Tryd.f4 Rows.traceChargesRow.domain false Rows.traceChargesRow.laid) (((OpenSpec.ofChange Rows.traceChargesSpec).at F).post enc Tryd.prog Tryd.f4 false true false false) := by
  obtain ⟨places, hx⟩ := tollwaylaw52_TraceCharges_reads os enc
  refine returnsInHanded_of_row (C := Tryd.checked) (s := OpenSpec.ofChange Rows.traceChargesSpec) tollwaylaw52_TraceCharges_own started (by kernel_rfl) Tryd.func4
    (witness_row_at (enc := enc) (C := Tryd.checked) false (tollwaylaw52_TraceCharges_world os) tollwaylaw52_TraceCharges_zero rfl (by kernel_rfl) (by kernel_rfl) (by kernel_rfl)
      (OpenSpec.preRow_of_cond 10 hx (by kernel_rfl) (fun k hk => by cases hk) (by kernel_rfl) (tollwaylaw52_TraceCharges_met os))) ?_
  intro W base args ds gs before hval hW _ _ hz hL _ _
  exact tollwaylaw52_TraceCharges_contract H enc W base args ds gs before hval hW hL hz

end Go.Proofs.YtalobodhbbkgdabDoor.Av
