/- The library's Itoa, as a contract over abstract values. -/
import Derived.Test.YtalobodhbbkgdabDoorAvSh
import Derived.Test.YtalobodhbbkgdabDoorProg
import Derived.Tactics
import Derived.Shelf.Strconv.Itoa4
set_option linter.unusedVariables false
set_option linter.unusedSimpArgs false
namespace Go.Proofs.YtalobodhbbkgdabDoor.Av
open Go Go.Proofs Go.Shelf
/-- the table of the powers of ten lies in its variable -/
def GT : Nat → AV := fun g => if g = 0 then .rop (Go.Lib.pow10Tab.map (AV.int .u64)) 0 else .any
def lay171_ren : Go.Shelf.Ren := ⟨(fun n => if n = 129 then 85 else if n = 171 then 68 else if n = 243 then 74 else if n = 246 then 78 else if n = 283 then 80 else if n = 284 then 81 else if n = 285 then 82 else if n = 286 then 83 else if n = 317 then 84 else if n = 318 then 86 else if n = 319 then 87 else if n = 320 then 88 else if n = 337 then 89 else if n = 338 then 90 else 0), (fun n => if n = 0 then 0 else if n = 2 then 2 else if n = 3 then 3 else if n = 4 then 4 else if n = 5 then 5 else if n = 9 then 9 else if n = 20 then 20 else if n = 37 then 135 else if n = 46 then 185 else if n = 51 then 182 else if n = 53 then 174 else if n = 171 then 173 else if n = 173 then 177 else if n = 212 then 181 else if n = 213 then 183 else if n = 232 then 188 else if n = 233 then 189 else 0), (fun n => if n = 17 then 0 else if n = 18 then 1 else if n = 19 then 2 else 0)⟩
theorem lay171 : LaysM.n171 Tryd.prog lay171_ren := ⟨⟨(by kernel_rfl), (by kernel_rfl), (by kernel_rfl), (by kernel_rfl), (by kernel_rfl), (by kernel_rfl), (by kernel_rfl), (by kernel_rfl), (by kernel_rfl), (by kernel_rfl), (by kernel_rfl), (by kernel_rfl), (by kernel_rfl), (by kernel_rfl), (by kernel_rfl), (by kernel_rfl), (fun w => by kernel_rfl), (fun w => by kernel_rfl), (fun w => by kernel_rfl), (by kernel_rfl), (fun w => by kernel_rfl), (fun w => by kernel_rfl), (fun w => by kernel_rfl), (by kernel_rfl), (fun w => by kernel_rfl), (fun w => by kernel_rfl), (fun w => by kernel_rfl), (by kernel_rfl), (fun w => by kernel_rfl), (fun w => by kernel_rfl), (fun w => by kernel_rfl), (by kernel_rfl), (fun w => by kernel_rfl), (fun w => by kernel_rfl), (fun w => by kernel_rfl), (by kernel_rfl), (fun w => by kernel_rfl), (fun w => by kernel_rfl), (fun w => by kernel_rfl), (by kernel_rfl), (fun w => by kernel_rfl), (fun w => by kernel_rfl), (fun w => by kernel_rfl), (by kernel_rfl), (fun w => by kernel_rfl), (fun w => by kernel_rfl), (fun w => by kernel_rfl), (by kernel_rfl), (fun w => by kernel_rfl), (fun w => by kernel_rfl), (fun w => by kernel_rfl), (by kernel_rfl), (fun w => by kernel_rfl), (fun w => by kernel_rfl), (fun w => by kernel_rfl), (by kernel_rfl), (fun w => by kernel_rfl), (fun w => by kernel_rfl), (fun w => by kernel_rfl), (by kernel_rfl), (fun w => by kernel_rfl), (fun w => by kernel_rfl), (fun w => by kernel_rfl), (by kernel_rfl), (fun w => by kernel_rfl), (fun w => by kernel_rfl), (fun w => by kernel_rfl), (by kernel_rfl), (fun w => by kernel_rfl), (fun w => by kernel_rfl), (fun w => by kernel_rfl), (by kernel_rfl), (fun w => by kernel_rfl), (fun w => by kernel_rfl), (by kernel_rfl), (fun w => by kernel_rfl), (fun w => by kernel_rfl), (fun w => by kernel_rfl), (by kernel_rfl), (fun w => by kernel_rfl), (fun w => by kernel_rfl), (fun w => by kernel_rfl), (by kernel_rfl), (by kernel_rfl), (by kernel_rfl)⟩, (by kernel_rfl), (by kernel_rfl), (by kernel_rfl), (by kernel_rfl), (by kernel_rfl), (by kernel_rfl), (by kernel_rfl), (by kernel_rfl), (by kernel_rfl), (by kernel_rfl), (by kernel_rfl), (by kernel_rfl), (by kernel_rfl), (by kernel_rfl), (by kernel_rfl), (by kernel_rfl), (by kernel_rfl), (by kernel_rfl), (by kernel_rfl)⟩
/-- strconv.Itoa -/
def itoaF (n : Int) : Option (List UInt8) := if InR .i64 n then some (Go.Lib.itoa n) else none
theorem itoa_ret (n : Int) (r : List UInt8) (h : itoaF n = some r) : Ret Tryd.prog GT 68 [.int .i64 n] (.str r) [] := by
  unfold itoaF at h
  obtain ⟨hi, h⟩ := guard_some h
  obtain rfl := Option.some.inj h
  rw [inR_i64] at hi
  refine Ret.of_calls fun ro w vs hlt hr hg => ?_
  obtain ⟨x, rfl, hx⟩ := reps_one hr
  cases hx
  refine (Any.strconv_Itoa lay171 n hi.1 hi.2 w (tab_of (G := GT) (g := 0) (by kernel_rfl) rfl hg)).mono ?_
  rintro e w' ⟨rfl, hw⟩
  exact ⟨⟨_, rfl, fun _ _ _ => .str rfl⟩, hw⟩
end Go.Proofs.YtalobodhbbkgdabDoor.Av
