import Derived.Test.YtdifanfcaemokaaGreatDoorBCS
import Derived.Stop.LaidErr
import Derived.Test.YtdifanfcaemokaaGreatDoorRows
open Prod (fst)
open Int (tdiv tmod)
set_option maxHeartbeats 4000000
set_option maxRecDepth 100000
set_option linter.unusedVariables false
set_option linter.unusedSimpArgs false
namespace Go.Proofs.YtdifanfcaemokaaGreatDoor.Av
open Go Go.Proofs Go.ChangeShapes Go.WideShapes Go.ChangeAt Go.RowKit Go.Proofs.YtdifanfcaemokaaGreatDoor
theorem GAy {W:World} (h:laidMet Tryz.prog Rows.engineNewsRow.laid W):Xz GT (fun _=>none) (fun b=>b<W.heap.size) W:=by
 have h2:laidMet Tryz.prog (("internal/strconv.uint64pow10",Rows.laid_internal_strconv_uint64pow10)::_) W:=h
 rw [show (Rows.laid_internal_strconv_uint64pow10:DataW Unit)=Go.Lib.tabData .u64 Go.Lib.pow10Tab by kernel_rfl] at h2
 have h3:=(laidMet.tail (laidMet.tail (laidMet.tail (laidMet.tail (laidMet.tail h)))))
 rw [show (Rows.laid_tollway_clock_months:DataW Unit)=Go.Lib.tabData .i64 [31,28,31,30,31,30,31,31,30,31,30,31] by kernel_rfl] at h3
 refine Gy0 (P:=Tryz.prog) fun g=>?_
 by_cases hg:g=3
 ·subst hg
  exact .inr ⟨_,.u64,Go.Lib.pow10Tab,rfl,by kernel_rfl,Go.Lib.tabIs_of_head (g:=3) (t:=779) (e:=490) (n:=20) (by kernel_rfl) (by kernel_rfl) (by kernel_rfl) (by kernel_rfl) (by kernel_rfl) (by kernel_rfl) h2⟩
 ·by_cases hm:g=4
  ·subst hm
   exact .inr ⟨_,.i64,[31,28,31,30,31,30,31,31,30,31,30,31],rfl,by kernel_rfl,Go.Lib.tabIs_of_head (g:=4) (t:=806) (e:=3) (n:=12) (by kernel_rfl) (by kernel_rfl) (by kernel_rfl) (by kernel_rfl) (by kernel_rfl) (by kernel_rfl) h3⟩
  ·exact .inl ((if_neg hg).trans (if_neg hm))
end Go.Proofs.YtdifanfcaemokaaGreatDoor.Av
