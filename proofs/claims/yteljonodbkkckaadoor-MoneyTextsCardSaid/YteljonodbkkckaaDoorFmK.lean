/- strconv.FormatUint at base 10, as a contract over abstract values. -/
import Derived.Test.YteljonodbkkckaaDoorAvSh
import Derived.Test.YteljonodbkkckaaDoorProg
import Derived.Tactics
import Derived.Shelf.Strconv.Itoa4
import Derived.Lib.AppendIntMem
set_option linter.unusedVariables false
set_option linter.unusedSimpArgs false
namespace Go.Proofs.YteljonodbkkckaaDoor.Av
open Go Go.Proofs Go.Shelf Go.Sort Go.Lib Go.RowKit
/-- the table of the powers of ten lies in its variable -/
def GT : Nat → AV := fun g => if g = 2 then .rop (Go.Lib.pow10Tab.map (AV.int .u64)) 0 else .any
def lay283_ren : Go.Shelf.Ren := ⟨(fun n => if n = 283 then 30 else 0), (fun n => if n = 3 then 3 else if n = 4 then 4 else if n = 9 then 9 else 0), (fun n => 0)⟩
theorem lay283 : Lays.n283 Tryd.prog lay283_ren := ⟨(by kernel_rfl), (by kernel_rfl), (by kernel_rfl), (fun w => by kernel_rfl), (fun w => by kernel_rfl), (fun w => by kernel_rfl), (by kernel_rfl), (fun w => by kernel_rfl), (fun w => by kernel_rfl), (fun w => by kernel_rfl), (by kernel_rfl), (fun w => by kernel_rfl), (fun w => by kernel_rfl), (fun w => by kernel_rfl)⟩
def lay284_ren : Go.Shelf.Ren := ⟨(fun n => if n = 129 then 29 else if n = 284 then 31 else if n = 317 then 34 else if n = 318 then 35 else 0), (fun n => if n = 0 then 0 else if n = 3 then 3 else if n = 4 then 4 else if n = 5 then 5 else if n = 9 then 9 else if n = 46 then 57 else if n = 53 then 43 else if n = 212 then 67 else 0), (fun n => if n = 17 then 2 else 0)⟩
theorem lay284 : LaysM.n284 Tryd.prog lay284_ren := ⟨⟨(by kernel_rfl), (by kernel_rfl), (by kernel_rfl), (by kernel_rfl), (by kernel_rfl), (by kernel_rfl), (fun w => by kernel_rfl), (fun w => by kernel_rfl), (fun w => by kernel_rfl), (by kernel_rfl), (fun w => by kernel_rfl), (fun w => by kernel_rfl), (fun w => by kernel_rfl), (by kernel_rfl), (fun w => by kernel_rfl), (fun w => by kernel_rfl), (fun w => by kernel_rfl), (by kernel_rfl), (fun w => by kernel_rfl), (fun w => by kernel_rfl), (fun w => by kernel_rfl), (by kernel_rfl), (fun w => by kernel_rfl), (fun w => by kernel_rfl), (fun w => by kernel_rfl), (by kernel_rfl), (fun w => by kernel_rfl), (fun w => by kernel_rfl), (fun w => by kernel_rfl), (by kernel_rfl), (fun w => by kernel_rfl), (fun w => by kernel_rfl), (fun w => by kernel_rfl), (by kernel_rfl), (fun w => by kernel_rfl), (fun w => by kernel_rfl), (fun w => by kernel_rfl), (by kernel_rfl)⟩, (by kernel_rfl), (by kernel_rfl), (by kernel_rfl), (by kernel_rfl), (by kernel_rfl), (by kernel_rfl), (by kernel_rfl), (by kernel_rfl), (by kernel_rfl)⟩
def lay285_ren : Go.Shelf.Ren := ⟨(fun n => if n = 285 then 32 else 0), (fun n => if n = 0 then 0 else if n = 3 then 3 else if n = 4 then 4 else if n = 5 then 5 else if n = 9 then 9 else if n = 37 then 55 else if n = 51 then 68 else if n = 53 then 43 else 0), (fun n => 0)⟩
theorem lay285 : Lays.n285 Tryd.prog lay285_ren := ⟨(by kernel_rfl), (by kernel_rfl), (by kernel_rfl), (fun w => by kernel_rfl), (fun w => by kernel_rfl), (fun w => by kernel_rfl), (by kernel_rfl), (fun w => by kernel_rfl), (fun w => by kernel_rfl), (fun w => by kernel_rfl), (by kernel_rfl), (fun w => by kernel_rfl), (fun w => by kernel_rfl), (fun w => by kernel_rfl), (by kernel_rfl), (fun w => by kernel_rfl), (fun w => by kernel_rfl), (fun w => by kernel_rfl), (by kernel_rfl), (fun w => by kernel_rfl), (fun w => by kernel_rfl), (fun w => by kernel_rfl), (by kernel_rfl), (fun w => by kernel_rfl), (fun w => by kernel_rfl), (fun w => by kernel_rfl), (by kernel_rfl), (fun w => by kernel_rfl), (fun w => by kernel_rfl), (fun w => by kernel_rfl), (by kernel_rfl), (fun w => by kernel_rfl), (fun w => by kernel_rfl), (fun w => by kernel_rfl)⟩
set_option maxRecDepth 100000 in
theorem fmtU_small (u : Nat) (hu : u < 100) (w : World) : Calls Tryd.prog 28 #[.int .u64 u, .int .i64 10] w fun e w' => e = .returned (.string ⟨(Lib.decDigits u).toArray⟩) ∧ ∃ k os, w' = grow (w.drewN k) os := by
  go_enter Tryd.func28, Tryd.ntmps28
  go_wp2_with (go_at_call 30; refine (Any.internal_strconv_small lay283 u hu _).mono ?_; rintro e w' ⟨rfl, rfl⟩)
  go_ret
  exact ⟨rfl, 0, #[], by simp [World.drewN_zero]⟩
set_option maxHeartbeats 6400000 in
set_option maxRecDepth 100000 in
theorem fmtU_big (u : Nat) (hu : 100 ≤ u) (hu64 : u < 18446744073709551616) (w : World) (htab : Lib.TabIs Tryd.prog w "internal/strconv.uint64pow10" .u64 Lib.pow10Tab) :
    Calls Tryd.prog 28 #[.int .u64 u, .int .i64 10] w fun e w' => e = .returned (.string ⟨(Lib.decDigits u).toArray⟩) ∧ ∃ k os, w' = grow (w.drewN k) os := by
  have hu1 : 1 ≤ u := by omega
  have hnd20 : Lib.nDigits u ≤ 20 := by have := Lib.numDigits_eq u hu1 hu64; split at this <;> omega
  have hal : Tryd.prog.arrayLen 61 = 24 := by simp [Program.arrayLen, Tryd.underlying61]
  have hsl : ∀ W, (Instr.sliceAt 61 (.pointer (some ⟨w.heap.size, 0, none⟩)) none (some (.int .i64 (Lib.nDigits u : Int))) none).run Tryd.prog W = .ok (.slice (some ⟨w.heap.size, 0, none⟩) (Lib.nDigits u) 24) W := fun W => by
    rw [run_sliceAt_array_h W 61 ⟨w.heap.size, 0, none⟩ (by simp [Program.arrayLen, Program.elem, Tryd.underlying61]) .i64 (Lib.nDigits u : Int) (by omega) (by rw [hal]; omega)]
    go_simp
  have hH0 := Lib.holds_zero0 w 61 (Lib.nDigits u) (by omega)
  have hfmt := Any.internal_strconv_formatBase10 lay285 w.heap.size 0 24 u (Array.replicate (Lib.nDigits u) 0) (w.alloc (.cells Lib.zeros24 61)) hH0 (by rw [Array.size_replicate]; exact Lib.lt_pow_nDigits u) hu64 (by rw [Array.size_replicate]; omega)
  rw [Array.size_replicate] at hfmt
  have HH0 := Lib.hid hH0
  have iu : (100 : Int) ≤ (u : Int) := by omega
  clear hH0 hal
  go_enter Tryd.func28, Tryd.ntmps28
  go_wp2_with (first
    | (go_at_call 31; refine (Any.internal_strconv_numDigits lay284 u hu1 hu64 _ (Lib.tabIs_alloc htab _)).mono ?_; rintro e w' ⟨rfl, rfl⟩))
  go_at_call 32
  refine hfmt.mono ?_
  rintro e w' ⟨rfl, k, v', dk, rfl, hF⟩
  have hcv : (convert 55 9 (.slice (some ⟨w.heap.size, 0, none⟩) (Lib.nDigits u) 24)).run Tryd.prog ((putRow (fun (b : UInt8) => Value.int .u8 (b.toNat : Int)) (w.alloc (.cells Lib.zeros24 61)) w.heap.size 0 dk).drewN k) = .ok (.string ⟨(Lib.decDigits u).toArray⟩) ((putRow (fun (b : UInt8) => Value.int .u8 (b.toNat : Int)) (w.alloc (.cells Lib.zeros24 61)) w.heap.size 0 dk).drewN k) := by
    have h := run_convert_bytes_back (P := Tryd.prog) ((putRow (fun (b : UInt8) => Value.int .u8 (b.toNat : Int)) (w.alloc (.cells Lib.zeros24 61)) w.heap.size 0 dk).drewN k) 55 9 5 ⟨w.heap.size, 0, none⟩ 24 (Lib.decDigits u) Tryd.underlying55 Tryd.underlying5 Tryd.underlying9 (fun j hj => by
      rw [Lib.row_is_numeral hF j hj, Lib.add_plain, World.cell?_drewN]
      exact cell?_putRow (fun (b : UInt8) => Value.int .u8 (b.toNat : Int)) _ w.heap.size 0 _ dk HH0.out (by rw [hF.size, Array.size_replicate]) j (by rw [hF.size]; rw [Lib.decDigits_length] at hj; exact hj))
    rw [Lib.decDigits_length] at h
    exact h
  go_wp2
  go_ret
  obtain ⟨os, eo⟩ := Lib.fin_at w (.cells Lib.zeros24 61) dk k 0
  exact ⟨rfl, k, os, eo⟩
/-- strconv.FormatUint at base 10 -/
def fmtF (n : Int) : Option (List UInt8) := if InR .u64 n then some (Go.Lib.decDigits n.toNat) else none
theorem fmt_ret (n : Int) (r : List UInt8) (h : fmtF n = some r) : Ret Tryd.prog GT 28 [.int .u64 n, .int .i64 10] (.str r) [] := by
  unfold fmtF at h
  obtain ⟨hi, h⟩ := guard_some h
  obtain rfl := Option.some.inj h
  rw [inR_u64] at hi
  refine Ret.of_calls fun ro w vs hlt hr hg => ?_
  obtain ⟨x, y, rfl, hx, hy⟩ := reps_two hr
  cases hx
  cases hy
  obtain ⟨u, rfl⟩ := Int.eq_ofNat_of_zero_le hi.1
  rw [show Int.toNat (u : Int) = u by omega]
  by_cases hu : u < 100
  · refine (fmtU_small u hu w).mono ?_
    rintro e w' ⟨rfl, hw⟩
    exact ⟨⟨_, rfl, fun _ _ _ => .str rfl⟩, hw⟩
  · refine (fmtU_big u (by omega) (by omega) w (tab_of (g := 2) (by kernel_rfl) rfl hg)).mono ?_
    rintro e w' ⟨rfl, hw⟩
    exact ⟨⟨_, rfl, fun _ _ _ => .str rfl⟩, hw⟩
end Go.Proofs.YteljonodbkkckaaDoor.Av
