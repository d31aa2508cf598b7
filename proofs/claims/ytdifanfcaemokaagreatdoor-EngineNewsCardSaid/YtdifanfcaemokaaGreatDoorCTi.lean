import Derived.Test.YtdifanfcaemokaaGreatDoorRows
import Derived.LaidByTextLater
import Derived.SevenTiedAt
open Prod (fst)
open Int (tdiv tmod)
set_option maxHeartbeats 4000000
set_option maxRecDepth 100000
set_option linter.unusedVariables false
set_option linter.unusedSimpArgs false
namespace Go.Proofs.YtdifanfcaemokaaGreatDoor.Av
open Go Go.Proofs Go.Proofs.YtdifanfcaemokaaGreatDoor
abbrev Gw7:List (String×DataW Unit):=[("internal/strconv.uint64pow10",Rows.laid_internal_strconv_uint64pow10),("math/bits.deBruijn32tab",Rows.laid_math_bits_deBruijn32tab),("math/bits.deBruijn64tab",Rows.laid_math_bits_deBruijn64tab),("unicode/utf8.acceptRanges",Rows.laid_unicode_utf8_acceptRanges),("tollway/clock.months",Rows.laid_tollway_clock_months)]
theorem GAG:Tryz.pinned.checked.prog.headLifts.contains "ownunsafe" = false:=by kernel_rfl
theorem GAH:Tryz.prog.worded (varsWordLater true)=true:=by kernel_rfl
theorem GAI:Tryz.prog.worded (varsWordLater !true)=false:=by kernel_rfl
theorem GAJ:Tryz.prog.worded rootWordLater=true:=by kernel_rfl
theorem GAK:Gw7.map (fun x=>Tryz.prog.kindOfLater x.1)=([.data,.data,.data,.data,.data]:List LaidKind).map some:=by kernel_rfl
theorem GAL:Tryz.prog.funcNamed "gosem.cut.vars" = some 760:=by kernel_rfl
theorem GAM:varsNamedLaterB Tryz.prog 760 Gw7=true:=by kernel_rfl
theorem GAN (os:Os) (tape):varsDone Tryz.prog 400 760 os tape=true:=by kernel_rfl
theorem GAO (os:Os) (tape):(DataW.laidRun Tryz.prog (varsWorld Tryz.prog 400 760 os tape).memory 8 (Gw7.map (·.1))).map (·.1)=some Gw7:=by kernel_rfl
theorem GAP (os:Os) (tape):(DataW.laidRun Tryz.prog (varsWorld Tryz.prog 400 760 os tape).memory 8 (Gw7.map (·.1))).map (fun x=>decide x.2.Nodup&&laidRowsB Tryz.prog (varsWorld Tryz.prog 400 760 os tape).memory x.2)=some true:=by kernel_rfl
theorem tieF:Tryz.prog.laidByTextLater Gw7 [.data,.data,.data,.data,.data] true:=
 Program.laidByTextLater_of_run 760 400 8 GAH GAI GAJ GAK GAL GAM GAN GAO GAP
theorem GwC:Tryz.pinned.checked.prog.pinnedFits "unicode/utf8.first" = true:=by kernel_rfl
theorem GAw:Tryz.pinned.checked.prog.listedFits [("internal/strconv.uint64pow10",Rows.laid_internal_strconv_uint64pow10),("math/bits.deBruijn32tab",Rows.laid_math_bits_deBruijn32tab),("math/bits.deBruijn64tab",Rows.laid_math_bits_deBruijn64tab),("unicode/utf8.first",Rows.laid_unicode_utf8_first),("unicode/utf8.acceptRanges",Rows.laid_unicode_utf8_acceptRanges),("tollway/clock.months",Rows.laid_tollway_clock_months)]=true:=by
 unfold Program.listedFits
 rw [GAG]
 kernel_rfl
theorem Gj2:Rows.engineNewsRow.laidByTextAt .later Tryz.pinned [.data,.data,.data,.pinned,.data,.data] true:=
 OpenClaim.laidByTextAt_pinned rfl rfl tieF rfl rfl rfl rfl (fun y hy _e=>by
  simp only [Rows.engineNewsRow,List.zip_cons_cons,List.zip_nil_right,List.mem_cons,List.mem_nil_iff,or_false] at hy
  rcases hy with rfl | rfl | rfl | rfl | rfl | rfl
  ·cases _e
  ·cases _e
  ·cases _e
  ·exact ⟨GwC,by kernel_rfl⟩
  ·cases _e
  ·cases _e) GAw
end Go.Proofs.YtdifanfcaemokaaGreatDoor.Av
