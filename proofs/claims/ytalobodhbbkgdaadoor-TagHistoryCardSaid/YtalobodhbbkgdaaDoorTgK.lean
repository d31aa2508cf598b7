/- The library's Itoa and Compare, as contracts over abstract values. -/
import Derived.Test.YtalobodhbbkgdaaDoorAvSh
import Derived.Test.YtalobodhbbkgdaaDoorProg
import Derived.Tactics
import Derived.Shelf.Strconv.Itoa4
import Derived.Shelf.Small.Strs
set_option linter.unusedVariables false
set_option linter.unusedSimpArgs false
namespace Go.Proofs.YtalobodhbbkgdaaDoor.Av
open Go Go.Proofs Go.Shelf
/-- the table of the powers of ten lies in its variable -/
def GT : Nat → AV := fun g => if g = 1 then .rop (Go.Lib.pow10Tab.map (AV.int .u64)) 0 else .any
def lay106_ren : Go.Shelf.Ren := ⟨(fun n => if n = 106 then 41 else if n = 213 then 49 else if n = 265 then 57 else 0), (fun n => if n = 3 then 3 else if n = 9 then 9 else 0), (fun n => 0)⟩
theorem lay106 : Lays.n106 Tryd.prog lay106_ren := ⟨(by kernel_rfl), (by kernel_rfl), (by kernel_rfl), (by kernel_rfl), (by kernel_rfl), (fun w => by kernel_rfl), (fun w => by kernel_rfl), (fun w => by kernel_rfl), (by kernel_rfl), (fun w => by kernel_rfl), (fun w => by kernel_rfl), (fun w => by kernel_rfl)⟩
def lay171_ren : Go.Shelf.Ren := ⟨(fun n => if n = 129 then 59 else if n = 171 then 25 else if n = 243 then 33 else if n = 246 then 43 else if n = 283 then 51 else if n = 284 then 52 else if n = 285 then 53 else if n = 286 then 54 else if n = 317 then 58 else if n = 318 then 60 else if n = 319 then 61 else if n = 320 then 62 else if n = 337 then 63 else if n = 338 then 64 else 0), (fun n => if n = 0 then 0 else if n = 2 then 2 else if n = 3 then 3 else if n = 4 then 4 else if n = 5 then 5 else if n = 9 then 9 else if n = 20 then 20 else if n = 37 then 34 else if n = 46 then 58 else if n = 51 then 40 else if n = 53 then 78 else if n = 171 then 84 else if n = 173 then 87 else if n = 212 then 94 else if n = 213 then 95 else if n = 232 then 98 else if n = 233 then 99 else 0), (fun n => if n = 17 then 1 else if n = 18 then 2 else if n = 19 then 3 else 0)⟩
theorem lay171 : LaysM.n171 Tryd.prog lay171_ren := ⟨⟨(by kernel_rfl), (by kernel_rfl), (by kernel_rfl), (by kernel_rfl), (by kernel_rfl), (by kernel_rfl), (by kernel_rfl), (by kernel_rfl), (by kernel_rfl), (by kernel_rfl), (by kernel_rfl), (by kernel_rfl), (by kernel_rfl), (by kernel_rfl), (by kernel_rfl), (by kernel_rfl), (fun w => by kernel_rfl), (fun w => by kernel_rfl), (fun w => by kernel_rfl), (by kernel_rfl), (fun w => by kernel_rfl), (fun w => by kernel_rfl), (fun w => by kernel_rfl), (by kernel_rfl), (fun w => by kernel_rfl), (fun w => by kernel_rfl), (fun w => by kernel_rfl), (by kernel_rfl), (fun w => by kernel_rfl), (fun w => by kernel_rfl), (fun w => by kernel_rfl), (by kernel_rfl), (fun w => by kernel_rfl), (fun w => by kernel_rfl), (fun w => by kernel_rfl), (by kernel_rfl), (fun w => by kernel_rfl), (fun w => by kernel_rfl), (fun w => by kernel_rfl), (by kernel_rfl), (fun w => by kernel_rfl), (fun w => by kernel_rfl), (fun w => by kernel_rfl), (by kernel_rfl), (fun w => by kernel_rfl), (fun w => by kernel_rfl), (fun w => by kernel_rfl), (by kernel_rfl), (fun w => by kernel_rfl), (fun w => by kernel_rfl), (fun w => by kernel_rfl), (by kernel_rfl), (fun w => by kernel_rfl), (fun w => by kernel_rfl), (fun w => by kernel_rfl), (by kernel_rfl), (fun w => by kernel_rfl), (fun w => by kernel_rfl), (fun w => by kernel_rfl), (by kernel_rfl), (fun w => by kernel_rfl), (fun w => by kernel_rfl), (fun w => by kernel_rfl), (by kernel_rfl), (fun w => by kernel_rfl), (fun w => by kernel_rfl), (fun w => by kernel_rfl), (by kernel_rfl), (fun w => by kernel_rfl), (fun w => by kernel_rfl), (fun w => by kernel_rfl), (by kernel_rfl), (fun w => by kernel_rfl), (fun w => by kernel_rfl), (by kernel_rfl), (fun w => by kernel_rfl), (fun w => by kernel_rfl), (fun w => by kernel_rfl), (by kernel_rfl), (fun w => by kernel_rfl), (fun w => by kernel_rfl), (fun w => by kernel_rfl), (by kernel_rfl), (by kernel_rfl), (by kernel_rfl)⟩, (by kernel_rfl), (by kernel_rfl), (by kernel_rfl), (by kernel_rfl), (by kernel_rfl), (by kernel_rfl), (by kernel_rfl), (by kernel_rfl), (by kernel_rfl), (by kernel_rfl), (by kernel_rfl), (by kernel_rfl), (by kernel_rfl), (by kernel_rfl), (by kernel_rfl), (by kernel_rfl), (by kernel_rfl), (by kernel_rfl), (by kernel_rfl)⟩
/-- strconv.Itoa -/
def itoaF (n : Int) : Option (List UInt8) := if InR .i64 n then some (Go.Lib.itoa n) else none
theorem itoa_ret (n : Int) (r : List UInt8) (h : itoaF n = some r) : Ret Tryd.prog GT 25 [.int .i64 n] (.str r) [] := by
  unfold itoaF at h
  obtain ⟨hi, h⟩ := guard_some h
  obtain rfl := Option.some.inj h
  rw [inR_i64] at hi
  refine Ret.of_calls fun ro w vs hlt hr hg => ?_
  obtain ⟨x, rfl, hx⟩ := reps_one hr
  cases hx
  refine (Any.strconv_Itoa lay171 n hi.1 hi.2 w (tab_of (g := 1) (by kernel_rfl) rfl hg)).mono ?_
  rintro e w' ⟨rfl, hw⟩
  exact ⟨⟨_, rfl, fun _ _ _ => .str rfl⟩, hw⟩
/-- strings.Compare -/
def cmpF (a b : List UInt8) : Option Int := some (Go.Lib.compareBytes a b)
theorem cmp_ret (a b : List UInt8) (r : Int) (h : cmpF a b = some r) : Ret Tryd.prog GT 41 [.str a, .str b] (.int .i64 r) [] := by
  obtain rfl := Option.some.inj h
  refine Ret.of_calls fun ro w vs hlt hr hg => ?_
  obtain ⟨x, y, rfl, hx, hy⟩ := reps_two hr
  cases hx with
  | str h1 =>
  cases hy with
  | str h2 =>
  subst h1; subst h2
  refine (Any.strings_Compare lay106 _ _ w).mono ?_
  rintro e w' ⟨rfl, rfl⟩
  exact ⟨⟨_, rfl, fun _ _ _ => .int⟩, 0, #[], by simp [Go.World.drewN]⟩
end Go.Proofs.YtalobodhbbkgdaaDoor.Av
