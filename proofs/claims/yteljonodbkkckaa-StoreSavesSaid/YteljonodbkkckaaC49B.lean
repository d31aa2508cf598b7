import Derived.Test.YteljonodbkkckaaAvZ
import Derived.Test.YteljonodbkkckaaC49A
import Derived.Test.YteljonodbkkckaaB3
import Derived.Test.YteljonodbkkckaaP49
import Derived.Test.YteljonodbkkckaaR49
import Derived.Test.YteljonodbkkckaaRows
set_option linter.unusedVariables false
set_option linter.unusedSimpArgs false
set_option maxHeartbeats 4000000
set_option maxRecDepth 100000
namespace Go.Proofs.Yteljonodbkkckaa.Av
open Go Go.Proofs Go.ChangeShapes Go.WideShapes Go.ChangeAt Go.RowKit Go.Proofs.Yteljonodbkkckaa
theorem tollwaylaw49_StoreSaves_own : ownKnob Try.prog.godebug = none := by kernel_rfl
noncomputable def tollwaylaw49_StoreSaves_world (os : Os) : World := World.holding Try.prog os ⟨#[], #[], []⟩
def tollwaylaw49_StoreSaves_zero : Array Value := #[Value.agg #[.slice none 0 0, .slice none 0 0, .slice none 0 0, .slice none 0 0, .slice none 0 0, .slice none 0 0, .int .i64 0, .int .i64 0, .slice none 0 0, .int .i64 0, .slice none 0 0, .slice none 0 0, .slice none 0 0, .slice none 0 0, .slice none 0 0, .slice none 0 0, .slice none 0 0, .slice none 0 0, .slice none 0 0, .slice none 0 0, .slice none 0 0, .slice none 0 0, .int .i64 0, .slice none 0 0, .string ⟨#[]⟩, .slice none 0 0, .slice none 0 0, .slice none 0 0, .int .i64 0, .slice none 0 0, .slice none 0 0, .slice none 0 0, .slice none 0 0, .slice none 0 0, .slice none 0 0, .slice none 0 0, .slice none 0 0, .slice none 0 0, .int .i64 0]]
theorem tollwaylaw49_StoreSaves_reads (os : Os) {H : Type} (enc : TypeId × Value → H) : ∃ places, DataW.whole enc Try.prog ((tollwaylaw49_StoreSaves_world os).forCall (fun _ _ => 0) ⟨#[], tollwaylaw49_StoreSaves_zero, []⟩).memory Try.f3.params.toList Rows.storeSavesSpec.vars false (tollwaylaw49_StoreSaves_zero).toList 10 = some ([.agg [.agg [.agg [.agg [.nil, .nil], .nil], .nil, .nil, .nil, .lit (.int .i64 0), .lit (.int .i64 0), .nil, .agg [.lit (.int .i64 0), .nil, .nil, .nil], .nil, .nil, .nil, .nil, .nil, .nil, .nil, .agg [.nil, .nil, .lit (.int .i64 0)], .nil, .lit (.string [])], .nil, .nil, .nil, .lit (.int .i64 0), .agg [.nil, .nil, .nil, .nil, .nil, .nil], .agg [.agg [.nil], .nil], .nil, .lit (.int .i64 0)]], [], places) :=
  ⟨[], by kernel_rfl⟩
set_option maxRecDepth 100000 in
theorem tollwaylaw49_StoreSaves_lifted (os : Os) (started : os.Started) (H : Type) (enc : TypeId × Value → H) (F : Stop.Interp) :
    ReturnsInHanded {} Try.checked os 3 .any ((OpenSpec.ofChange Rows.storeSavesSpec).preRow enc Try.prog Try.f3 Rows.storeSavesRow.domain false Rows.storeSavesRow.laid) (((OpenSpec.ofChange Rows.storeSavesSpec).at F).post enc Try.prog Try.f3 false true false false) := by
  obtain ⟨places, hx⟩ := tollwaylaw49_StoreSaves_reads os enc
  refine returnsInHanded_of_row (C := Try.checked) (s := OpenSpec.ofChange Rows.storeSavesSpec) tollwaylaw49_StoreSaves_own started (by kernel_rfl) Try.func3
    (witness_row_at (enc := enc) (C := Try.checked) false (tollwaylaw49_StoreSaves_world os) tollwaylaw49_StoreSaves_zero rfl (by kernel_rfl) (by kernel_rfl) (by kernel_rfl)
      (OpenSpec.preRow_of_cond 10 hx (by kernel_rfl) (fun k hk => by cases hk) (by kernel_rfl) (laidMet_nil _ _))) ?_
  intro W base args ds gs before hval hW _ _ _ hL _ _
  exact tollwaylaw49_StoreSaves_contract H enc W base args ds gs before hval hW
end Go.Proofs.Yteljonodbkkckaa.Av
