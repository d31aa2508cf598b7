/- The laws TagLists, TagStates, TagChecks and TagMakes hold. -/
import Derived.Test.YtalobodhbbkgdaaDoorPT3
import Derived.Test.YtalobodhbbkgdaaDoorL1
import Derived.Test.YtalobodhbbkgdaaDoorL2
import Derived.Test.YtalobodhbbkgdaaDoorL3
import Derived.Test.YtalobodhbbkgdaaDoorL4
set_option linter.unusedVariables false
set_option linter.unusedSimpArgs false
namespace Go.Proofs.YtalobodhbbkgdaaDoor.Av
open Go Go.Proofs
theorem tollwaylaw11_TagLists_true (l : List Tapi_TagState) {p : Prop} (_ : p) : tollwaylaw11_TagLists l = some true := by
  unfold tollwaylaw11_TagLists
  by_cases h : (l.length : Int) > 100
  · rw [if_pos h]
  · obtain ⟨r, hr, -⟩ := checkAll_res l
    rw [if_neg h, ← checkAll_eq, hr, Option.bind_some, Option.bind_some, if_pos rfl, alive_true]; rfl
theorem tollwaylaw11_TagStates_true (l : List Tapi_TagState) (s : List UInt8) (t : Int) {p q r : Prop} (_ : p) (_ : q) (_ : r) : tollwaylaw11_TagStates l s t = some true := by
  unfold tollwaylaw11_TagStates
  by_cases h : (l.length : Int) > 100
  · rw [if_pos h]
  rw [if_neg h]
  by_cases h : (s.length : Int) > 100
  · rw [if_pos h]
  rw [if_neg h, rstate_eq, state_eq l s t (by omega), Option.bind_some, Option.bind_some, if_pos rfl, alive_true]; rfl
theorem tollwaylaw11_TagChecks_true (s : List UInt8) {p : Prop} (_ : p) : tollwaylaw11_TagChecks s = some true := by
  unfold tollwaylaw11_TagChecks
  by_cases h : (s.length : Int) > 100
  · rw [if_pos h]
  rw [if_neg h, agency_eq, serial_eq, ragency_eq, rserial_eq, check_eq, rcheck_eq]
  simp only [Option.bind_some, if_true, alive_true]
theorem tollwaylaw11_TagMakes_true (s : List UInt8) (n : Int) {p q : Prop} (_ : p) (_ : q) : tollwaylaw11_TagMakes s n = some true := by
  unfold tollwaylaw11_TagMakes
  by_cases h : (s.length : Int) > 100
  · rw [if_pos h]
  rw [if_neg h, make_eq, rmake_eq, Option.bind_some, Option.bind_some, if_pos rfl, if_pos rfl, alive_true]; rfl
end Go.Proofs.YtalobodhbbkgdaaDoor.Av
