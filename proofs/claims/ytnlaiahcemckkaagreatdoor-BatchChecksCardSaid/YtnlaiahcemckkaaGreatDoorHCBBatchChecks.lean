import Derived.Test.YtnlaiahcemckkaaGreatDoorHCABatchChecks
open Prod (fst)
open Int (tdiv tmod)
set_option maxHeartbeats 4000000
set_option maxRecDepth 100000
set_option linter.unusedVariables false
set_option linter.unusedSimpArgs false
namespace Go.Proofs.YtnlaiahcemckkaaGreatDoor.Av
open Go Go.Proofs Go.ChangeShapes Go.WideShapes Go.ChangeAt Go.RowKit Go.Proofs.YtnlaiahcemckkaaGreatDoor
theorem Yv:ownKnob Tryz.prog.godebug=none:=by kernel_rfl
noncomputable def JA (os:Os):World:={ World.holding Tryz.prog os ⟨#[],#[],[]⟩ with heap:=GoW 6 (Gwp (H:=Unit) Rows.laid_tollway_clock_months) (GoW 1 (Gwp (H:=Unit) Rows.laid_internal_strconv_uint64pow10) (GoW 4 (Gwp (H:=Unit) Rows.laid_math_bits_deBruijn32tab) (GoW 5 (Gwp (H:=Unit) Rows.laid_math_bits_deBruijn64tab) ((World.holding Tryz.prog os ⟨#[],#[],[]⟩).heap)))) }
def HV:Array Value:=#[Value.agg #[.slice none 0 0,.slice none 0 0,.slice none 0 0,.slice none 0 0,.slice none 0 0,.slice none 0 0,.int .i64 0,.int .i64 0,.slice none 0 0,.int .i64 0,.slice none 0 0,.slice none 0 0,.slice none 0 0,.slice none 0 0,.slice none 0 0,.slice none 0 0,.slice none 0 0,.slice none 0 0,.slice none 0 0,.slice none 0 0,.slice none 0 0,.slice none 0 0,.int .i64 0,.slice none 0 0,.string ⟨#[]⟩]]
theorem Yt (os:Os):laidMet Tryz.prog Rows.batchChecksRow.laid ((JA os).forCall (fun _ _=>0) ⟨#[],HV,[]⟩).memory:=
 laidMet_of_run' 8 (by kernel_rfl) (by kernel_rfl)
theorem VU (os:Os) {H:Type} (enc:TypeId×Value→H):∃ places,DataW.whole enc Tryz.prog ((JA os).forCall (fun _ _=>0) ⟨#[],HV,[]⟩).memory Tryz.f4.params.toList Rows.batchChecksSpec.vars false (HV).toList 9=some ([.agg [.agg [.agg [.nil,.nil],.nil],.nil,.nil,.nil,.lit (.int .i64 0),.lit (.int .i64 0),.nil,.agg [.lit (.int .i64 0),.nil,.nil,.nil],.nil,.nil,.nil,.nil,.nil,.nil,.nil,.agg [.nil,.nil,.lit (.int .i64 0)],.nil,.lit (.string [])]],[],places):=
 ⟨[],by kernel_rfl⟩
set_option maxRecDepth 100000 in
theorem Vs (os:Os) (started:os.Started) (H:Type) (enc:TypeId×Value→H) (F:Stop.Interp):
  ReturnsInHanded {} Tryz.checked os 4 .any ((OpenSpec.ofChange Rows.batchChecksSpec).preRow enc Tryz.prog Tryz.f4 Rows.batchChecksRow.domain false Rows.batchChecksRow.laid) (((OpenSpec.ofChange Rows.batchChecksSpec).at F).post enc Tryz.prog Tryz.f4 false true false false):=by
 obtain ⟨places,hx⟩:=VU os enc
 refine returnsInHanded_of_row (C:=Tryz.checked) (s:=OpenSpec.ofChange Rows.batchChecksSpec) Yv started (by kernel_rfl) Tryz.func4
  (witness_row_at (enc:=enc) (C:=Tryz.checked) false (JA os) HV rfl (by kernel_rfl) (by kernel_rfl) (by kernel_rfl)
   (OpenSpec.preRow_of_cond 9 hx (by kernel_rfl) (fun k hk=>by cases hk) (by kernel_rfl) (Yt os))) ?_
 intro W base args ds gs before hval hW _ _ hz hL _ _
 exact Un H enc W base args ds gs before hval hW hL hz
end Go.Proofs.YtnlaiahcemckkaaGreatDoor.Av
