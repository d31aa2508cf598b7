/- BatchSame: its row. -/
import Derived.Test.YtnlaiahcemckkaaGreatDoorCABatchSame
import Derived.Test.YtnlaiahcemckkaaGreatDoorRows
import Derived.Lib.LaidTab
set_option linter.unusedVariables false
set_option linter.unusedSimpArgs false
set_option maxHeartbeats 4000000
set_option maxRecDepth 100000
namespace Go.Proofs.YtnlaiahcemckkaaGreatDoor.Av
open Go Go.Proofs Go.ChangeShapes Go.WideShapes Go.ChangeAt Go.RowKit Go.Proofs.YtnlaiahcemckkaaGreatDoor
theorem tollwaylaw47_BatchSame_own : ownKnob Tryz.prog.godebug = none := by kernel_rfl
noncomputable def tollwaylaw47_BatchSame_world (os : Os) : World := { World.holding Tryz.prog os ⟨#[], #[], []⟩ with heap := setTab 6 (tabV (H := Unit) Rows.laid_tollway_clock_months) (setTab 1 (tabV (H := Unit) Rows.laid_internal_strconv_uint64pow10) (setTab 4 (tabV (H := Unit) Rows.laid_math_bits_deBruijn32tab) (setTab 5 (tabV (H := Unit) Rows.laid_math_bits_deBruijn64tab) ((World.holding Tryz.prog os ⟨#[], #[], []⟩).heap)))) }
def tollwaylaw47_BatchSame_zero : Array Value := #[Value.agg #[.slice none 0 0, .slice none 0 0, .slice none 0 0, .slice none 0 0, .slice none 0 0, .slice none 0 0], Value.agg #[.slice none 0 0, .slice none 0 0, .slice none 0 0, .slice none 0 0, .slice none 0 0, .slice none 0 0], Value.string ⟨#[]⟩]
theorem tollwaylaw47_BatchSame_met (os : Os) : laidMet Tryz.prog Rows.batchSameRow.laid ((tollwaylaw47_BatchSame_world os).forCall (fun _ _ => 0) ⟨#[], tollwaylaw47_BatchSame_zero, []⟩).memory :=
  laidMet_of_run' 8 (by kernel_rfl) (by kernel_rfl)
theorem tollwaylaw47_BatchSame_reads (os : Os) {H : Type} (enc : TypeId × Value → H) : ∃ places, DataW.whole enc Tryz.prog ((tollwaylaw47_BatchSame_world os).forCall (fun _ _ => 0) ⟨#[], tollwaylaw47_BatchSame_zero, []⟩).memory Tryz.f3.params.toList Rows.batchSameSpec.vars false (tollwaylaw47_BatchSame_zero).toList 8 = some ([.agg [.nil, .nil, .nil, .nil, .nil, .nil], .agg [.nil, .nil, .nil, .nil, .nil, .nil], .lit (.string [])], [], places) :=
  ⟨[], by kernel_rfl⟩
set_option maxRecDepth 100000 in
theorem tollwaylaw47_BatchSame_lifted (os : Os) (started : os.Started) (H : Type) (enc : TypeId × Value → H) (F : Stop.Interp) :
    ReturnsInHanded {} Tryz.checked os 3 .any ((OpenSpec.ofChange Rows.batchSameSpec).preRow enc Tryz.prog Tryz.f3 Rows.batchSameRow.domain false Rows.batchSameRow.laid) (((OpenSpec.ofChange Rows.batchSameSpec).at F).post enc Tryz.prog Tryz.f3 false true false false) := by
  obtain ⟨places, hx⟩ := tollwaylaw47_BatchSame_reads os enc
  refine returnsInHanded_of_row (C := Tryz.checked) (s := OpenSpec.ofChange Rows.batchSameSpec) tollwaylaw47_BatchSame_own started (by kernel_rfl) Tryz.func3
    (witness_row_at (enc := enc) (C := Tryz.checked) false (tollwaylaw47_BatchSame_world os) tollwaylaw47_BatchSame_zero rfl (by kernel_rfl) (by kernel_rfl) (by kernel_rfl)
      (OpenSpec.preRow_of_cond 8 hx (by kernel_rfl) (fun k hk => by cases hk) (by kernel_rfl) (tollwaylaw47_BatchSame_met os))) ?_
  intro W base args ds gs before hval hW _ _ hz hL _ _
  exact tollwaylaw47_BatchSame_contract H enc W base args ds gs before hval hW hL hz
end Go.Proofs.YtnlaiahcemckkaaGreatDoor.Av
