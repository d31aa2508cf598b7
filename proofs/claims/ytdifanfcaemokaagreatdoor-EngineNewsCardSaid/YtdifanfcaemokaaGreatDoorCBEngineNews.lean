import Derived.Test.YtdifanfcaemokaaGreatDoorCAEngineNews
open Prod (fst)
open Int (tdiv tmod)
set_option maxHeartbeats 4000000
set_option maxRecDepth 100000
set_option linter.unusedVariables false
set_option linter.unusedSimpArgs false
namespace Go.Proofs.YtdifanfcaemokaaGreatDoor.Av
open Go Go.Proofs Go.ChangeShapes Go.WideShapes Go.ChangeAt Go.RowKit Go.Proofs.YtdifanfcaemokaaGreatDoor
theorem GaF:ownKnob Tryz.prog.godebug=none:=by kernel_rfl
noncomputable def Ke (os:Os):World:={ World.holding Tryz.prog os ⟨#[],#[],[]⟩ with heap:=GmQ 7 (Gyy (H:=Unit) Rows.laid_unicode_utf8_first) (GmQ 8 (GAF (H:=Unit) Rows.laid_unicode_utf8_acceptRanges) (GmQ 4 (Gyy (H:=Unit) Rows.laid_tollway_clock_months) (GmQ 3 (Gyy (H:=Unit) Rows.laid_internal_strconv_uint64pow10) (GmQ 5 (Gyy (H:=Unit) Rows.laid_math_bits_deBruijn32tab) (GmQ 6 (Gyy (H:=Unit) Rows.laid_math_bits_deBruijn64tab) ((World.holding Tryz.prog os ⟨#[],#[],[]⟩).heap)))))) }
def Jh:Array Value:=#[Value.agg #[.slice none 0 0,.slice none 0 0,.slice none 0 0,.slice none 0 0,.slice none 0 0,.slice none 0 0,.int .i64 0,.int .i64 0,.slice none 0 0,.int .i64 0,.slice none 0 0,.slice none 0 0,.slice none 0 0,.slice none 0 0,.slice none 0 0,.slice none 0 0,.slice none 0 0,.slice none 0 0,.slice none 0 0,.slice none 0 0,.slice none 0 0,.slice none 0 0,.int .i64 0,.slice none 0 0,.string ⟨#[]⟩]]
theorem GaE (os:Os):laidMet Tryz.prog Rows.engineNewsRow.laid ((Ke os).forCall (fun _ _=>0) ⟨#[],Jh,[]⟩).memory:=
 laidMet_of_run' 8 (by kernel_rfl) (by kernel_rfl)
theorem Zn (os:Os) {H:Type} (enc:TypeId×Value→H):∃ places,DataW.whole enc Tryz.prog ((Ke os).forCall (fun _ _=>0) ⟨#[],Jh,[]⟩).memory Tryz.f3.params.toList Rows.engineNewsSpec.vars false (Jh).toList 9=some ([.agg [.agg [.agg [.nil,.nil],.nil],.nil,.nil,.nil,.lit (.int .i64 0),.lit (.int .i64 0),.nil,.agg [.lit (.int .i64 0),.nil,.nil,.nil],.nil,.nil,.nil,.nil,.nil,.nil,.nil,.agg [.nil,.nil,.lit (.int .i64 0)],.nil,.lit (.string [])]],[],places):=
 ⟨[],by kernel_rfl⟩
set_option maxRecDepth 100000 in
theorem Yf (os:Os) (started:os.Started) (H:Type) (enc:TypeId×Value→H) (F:Stop.Interp):
  ReturnsInHanded {} Tryz.checked os 3 .any ((OpenSpec.ofChange Rows.engineNewsSpec).preRow enc Tryz.prog Tryz.f3 Rows.engineNewsRow.domain false Rows.engineNewsRow.laid) (((OpenSpec.ofChange Rows.engineNewsSpec).at F).post enc Tryz.prog Tryz.f3 false true false false):=by
 obtain ⟨places,hx⟩:=Zn os enc
 refine returnsInHanded_of_row (C:=Tryz.checked) (s:=OpenSpec.ofChange Rows.engineNewsSpec) GaF started (by kernel_rfl) Tryz.func3
  (witness_row_at (enc:=enc) (C:=Tryz.checked) false (Ke os) Jh rfl (by kernel_rfl) (by kernel_rfl) (by kernel_rfl)
   (OpenSpec.preRow_of_cond 9 hx (by kernel_rfl) (fun k hk=>by cases hk) (by kernel_rfl) (GaE os))) ?_
 intro W base args ds gs before hval hW _ _ hz hL _ _
 exact Xq H enc W base args ds gs before hval hW hL hz
end Go.Proofs.YtdifanfcaemokaaGreatDoor.Av
