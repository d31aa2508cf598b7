/- The tables, and short words. -/
import Derived.Test.YtnlaiahcemckkaaGreatDoorAvMm
import Derived.Lib.ItoaNum
import Derived.Test.YtnlaiahcemckkaaGreatDoorProg
import Derived.KernelRfl
import Derived.Tactics
import Derived.Shelf.Strconv.Itoa4
import Derived.Test.YtnlaiahcemckkaaGreatDoorAvZ
import Derived.Shelf.SortM.Plain
import Derived.Shelf.SortM.SortNone
import Derived.Sort.OwnSorted
import Derived.Ground.SlgmProg
set_option linter.unusedVariables false
namespace Go.Proofs.YtnlaiahcemckkaaGreatDoor.Av
open Go Go.Proofs
def GT : Nat → AV := fun g => if g = 1 then .rop (Go.Lib.pow10Tab.map (AV.int .u64)) 0 else if g = 6 then .rop [.int .i64 31, .int .i64 28, .int .i64 31, .int .i64 30, .int .i64 31, .int .i64 30, .int .i64 31, .int .i64 31, .int .i64 30, .int .i64 31, .int .i64 30, .int .i64 31] 0 else .any
abbrev xi (n : Int) : AV := .int .i64 n
abbrev xb (c : List AV) (e : TypeId) (pl : Bool) : Blk := ⟨c, e, false, 0, pl, false, none⟩
abbrev xe (c : List AV) (e : TypeId) (pl : Bool) : Blk := ⟨c, e, true, 0, pl, false, none⟩
end Go.Proofs.YtnlaiahcemckkaaGreatDoor.Av
/- The library's Itoa, as a contract over abstract values. -/
set_option linter.unusedVariables false
set_option linter.unusedSimpArgs false
namespace Go.Proofs.YtnlaiahcemckkaaGreatDoor.Av
open Go Go.Proofs Go.Shelf
def lay171_ren : Go.Shelf.Ren := ⟨(fun n => if n = 129 then 162 else if n = 171 then 71 else if n = 243 then 151 else if n = 246 then 226 else if n = 283 then 317 else if n = 284 then 318 else if n = 285 then 319 else if n = 286 then 320 else if n = 317 then 404 else if n = 318 then 405 else if n = 319 then 406 else if n = 320 then 407 else if n = 337 then 477 else if n = 338 then 478 else 0), (fun n => if n = 0 then 0 else if n = 2 then 2 else if n = 3 then 3 else if n = 4 then 4 else if n = 5 then 5 else if n = 9 then 9 else if n = 20 then 20 else if n = 37 then 301 else if n = 46 then 173 else if n = 51 then 275 else if n = 53 then 277 else if n = 171 then 442 else if n = 173 then 444 else if n = 212 then 548 else if n = 213 then 549 else if n = 232 then 668 else if n = 233 then 669 else 0), (fun n => if n = 17 then 1 else if n = 18 then 4 else if n = 19 then 5 else 0)⟩
theorem lay171 : LaysM.n171 Tryz.prog lay171_ren := ⟨⟨(by kernel_rfl), (by kernel_rfl), (by kernel_rfl), (by kernel_rfl), (by kernel_rfl), (by kernel_rfl), (by kernel_rfl), (by kernel_rfl), (by kernel_rfl), (by kernel_rfl), (by kernel_rfl), (by kernel_rfl), (by kernel_rfl), (by kernel_rfl), (by kernel_rfl), (by kernel_rfl), (fun w => by kernel_rfl), (fun w => by kernel_rfl), (fun w => by kernel_rfl), (by kernel_rfl), (fun w => by kernel_rfl), (fun w => by kernel_rfl), (fun w => by kernel_rfl), (by kernel_rfl), (fun w => by kernel_rfl), (fun w => by kernel_rfl), (fun w => by kernel_rfl), (by kernel_rfl), (fun w => by kernel_rfl), (fun w => by kernel_rfl), (fun w => by kernel_rfl), (by kernel_rfl), (fun w => by kernel_rfl), (fun w => by kernel_rfl), (fun w => by kernel_rfl), (by kernel_rfl), (fun w => by kernel_rfl), (fun w => by kernel_rfl), (fun w => by kernel_rfl), (by kernel_rfl), (fun w => by kernel_rfl), (fun w => by kernel_rfl), (fun w => by kernel_rfl), (by kernel_rfl), (fun w => by kernel_rfl), (fun w => by kernel_rfl), (fun w => by kernel_rfl), (by kernel_rfl), (fun w => by kernel_rfl), (fun w => by kernel_rfl), (fun w => by kernel_rfl), (by kernel_rfl), (fun w => by kernel_rfl), (fun w => by kernel_rfl), (fun w => by kernel_rfl), (by kernel_rfl), (fun w => by kernel_rfl), (fun w => by kernel_rfl), (fun w => by kernel_rfl), (by kernel_rfl), (fun w => by kernel_rfl), (fun w => by kernel_rfl), (fun w => by kernel_rfl), (by kernel_rfl), (fun w => by kernel_rfl), (fun w => by kernel_rfl), (fun w => by kernel_rfl), (by kernel_rfl), (fun w => by kernel_rfl), (fun w => by kernel_rfl), (fun w => by kernel_rfl), (by kernel_rfl), (fun w => by kernel_rfl), (fun w => by kernel_rfl), (by kernel_rfl), (fun w => by kernel_rfl), (fun w => by kernel_rfl), (fun w => by kernel_rfl), (by kernel_rfl), (fun w => by kernel_rfl), (fun w => by kernel_rfl), (fun w => by kernel_rfl), (by kernel_rfl), (by kernel_rfl), (by kernel_rfl)⟩, (by kernel_rfl), (by kernel_rfl), (by kernel_rfl), (by kernel_rfl), (by kernel_rfl), (by kernel_rfl), (by kernel_rfl), (by kernel_rfl), (by kernel_rfl), (by kernel_rfl), (by kernel_rfl), (by kernel_rfl), (by kernel_rfl), (by kernel_rfl), (by kernel_rfl), (by kernel_rfl), (by kernel_rfl), (by kernel_rfl), (by kernel_rfl)⟩
/-- strconv.Itoa -/
def itoaF (n : Int) : Option (List UInt8) := if InR .i64 n then some (Go.Lib.itoa n) else none
theorem itoa_ret (n : Int) (r : List UInt8) (h : itoaF n = some r) : Ret Tryz.prog GT 71 [.int .i64 n] (.str r) [] := by
  unfold itoaF at h
  obtain ⟨hi, h⟩ := guard_some h
  obtain rfl := Option.some.inj h
  rw [inR_i64] at hi
  refine Ret.of_calls fun ro w vs hlt hr hg => ?_
  obtain ⟨x, rfl, hx⟩ := reps_one hr
  cases hx
  refine (Any.strconv_Itoa lay171 n hi.1 hi.2 w (tab_of (g := 1) (by kernel_rfl) rfl hg)).mono ?_
  rintro e w' ⟨rfl, hw⟩
  exact ⟨⟨_, rfl, fun _ _ _ => .str rfl⟩, hw⟩
end Go.Proofs.YtnlaiahcemckkaaGreatDoor.Av
/- slices.Sort of strings, in place. -/
set_option linter.unusedVariables false
set_option linter.unusedSimpArgs false
namespace Go.Proofs.YtnlaiahcemckkaaGreatDoor.Av
open Go.RowKit Go.Sort Go.Shelf Go.Proofs
/-- the name of a function -/
def nmOf (P : Program) (f : Nat) : String := match P.funcs[f]? with | some x => x.name | none => ""
theorem bears_nm {P : Program} {f : Nat} {B : Func} (h1 : (nmOf P f == "runtime.NumGoroutine") = false) (h2 : P.funcs[f]? = some { B with name := nmOf P f }) : Go.Proofs.Bears P f B := ⟨_, h1, h2⟩
def tS_ren : Go.Shelf.Ren := ⟨fun x => match x with | 6 => 20 | 8 => 73 | 9 => 72 | 19 => 161 | 20 => 162 | 21 => 152 | 22 => 153 | 23 => 154 | 24 => 155 | 25 => 156 | 26 => 157 | 27 => 158 | 28 => 159 | 29 => 160 | 36 => 227 | 31 => 228 | 32 => 229 | 37 => 230 | 38 => 231 | 39 => 225 | 41 => 321 | n => n, fun x => match x with | 27 => 31 | 29 => 9 | 3 => 3 | 32 => 173 | 26 => 31 | 0 => 0 | 44 => 275 | 46 => 277 | 4 => 4 | 36 => 267 | 35 => 266 | 41 => 272 | 5 => 5 | 9 => 9 | 53 => 352 | 57 => 233 | 63 => 446 | 64 => 447 | n => n, fun n => n⟩
theorem tS : Go.Proofs.SlLaysM.n6 Tryz.prog tS_ren := by
  constructor <;> first | kernel_rfl | (intro w; kernel_rfl) | exact bears_nm (by kernel_rfl) (by kernel_rfl)
theorem fl_e_str : ∀ l : List (List UInt8), fl e_str l = l.map (fun x => AV.str x)
  | [] => rfl
  | x :: l => by rw [fl_cons, fl_e_str l]; rfl
/-- the strings in order -/
def sortS (l : List (List UInt8)) : List (List UInt8) := l.mergeSort (fun x y => decide (x ≤ y))
/-- what is asked of them -/
def SrS (l : List (List UInt8)) : Prop := l.length < 4611686018427387904
instance (l : List (List UInt8)) : Decidable (SrS l) := by unfold SrS; infer_instance
theorem sortS_length (l : List (List UInt8)) : (sortS l).length = l.length := List.length_mergeSort ..
theorem getD_str (l : List (List UInt8)) {i : Nat} (hi : i < l.length) : (fl e_str l).getD i .any = .str l[i] := by
  rw [fl_e_str, List.getD_eq_getElem?_getD, List.getElem?_map, List.getElem?_eq_getElem hi]; rfl
theorem len_str (l : List (List UInt8)) : (fl e_str l).length = l.length := by rw [fl_e_str, List.length_map]
theorem sortS_calls (l : List (List UInt8)) (h : SrS l) : CallsM Tryz.prog GT 1 20 [.vec 0 l.length 1] [bV (fl e_str l) 9] (.tup []) [bV (fl e_str (sortS l)) 9] := by
  intro μ ro w vs ha hh hg
  obtain ⟨x, rfl, hx⟩ := reps_one ha
  by_cases hl : l = []
  · subst hl
    have hx0 : ∃ p cap, x = .slice p 0 cap := by
      generalize hn : ([] : List (List UInt8)).length = n at hx
      cases hx with
      | vec => exact ⟨_, _, by rw [← hn]; rfl⟩
      | vecn => exact ⟨_, _, rfl⟩
    obtain ⟨p, cap, rfl⟩ := hx0
    refine (AnyM.slices_Sort_string_none tS p cap w).mono ?_
    rintro e w' ⟨rfl, rfl⟩
    rw [show sortS [] = [] from List.length_eq_zero_iff.1 (sortS_length [])]
    exact ⟨μ, ro, .refl _ _ _ _, .tup rfl (fun i hi => by simp at hi), hh⟩
  · have hpos : 0 < l.length := by cases l with | nil => exact absurd rfl hl | cons a b => simp
    generalize hn : l.length = n at hx
    cases hx with
    | vecn => omega
    | @vec _ _ _ cap b hb h1 h3 =>
    subst hn
    have hget : (hpOf [bV (fl e_str l) 9] ⟨.e, 0⟩).m.get 0 = some (.blk (bV (fl e_str l) 9)) := rfl
    obtain ⟨cs, fr, g1, g0, g2, g3, g4, g5⟩ := BlkRel.get (hh.obsM 0 (.blk (bV (fl e_str l) 9)) b hget hb)
    have hle : l.length ≤ cs.size := by rw [← len_str l]; exact g2
    have hcell : ∀ j, j < l.length → cs.getD j undef = encStr (l.toArray[j]!) := fun j hj => by
      have h5 := g5 j (by rw [len_str]; exact hj)
      have e1 : (bV (fl e_str l) 9).c.getD j .any = .str l[j] := getD_str l hj
      rw [e1] at h5
      generalize cs.getD j undef = y at h5
      cases h5 with
      | @str _ s b' hb' =>
        have e2 : l.toArray[j]! = l[j] := by simp [hj]
        rw [e2, ← hb']
    have hH : Holds encStr w b.1 0 l.toArray := by
      intro j hj
      have hj' : j < l.length := by simpa using hj
      have hlt : j < cs.size := by omega
      have e3 := hcell j hj'
      rw [Array.getD_eq_getD_getElem?, Array.getElem?_eq_getElem hlt, Option.getD_some] at e3
      refine ⟨?_, ?_⟩
      · simp only [World.cell?, g1, Nat.zero_add]
        simp [Array.getElem?_eq_getElem hlt, e3]
      · simp only [World.frozen?, g1, Nat.zero_add]
        have h4 := g4 j
        simp only [Bool.and_eq_false_iff, decide_eq_false_iff_not]
        have hz : (bV (fl e_str l) 9).fz = 0 := rfl
        rw [hz] at h4
        by_cases h6 : fr.1 ≤ j
        · right; intro h7; have := h4 h6 h7; omega
        · left; exact h6
    have hlt := (Array.getElem?_eq_some_iff.1 g1).1
    refine (AnyM.slices_Sort_string tS b.1 0 cap l w hH hlt h).mono ?_
    rintro e w' ⟨rfl, n, os, rfl⟩
    have hb2 := heap_sorted (n := n) (os := os) ((l.mergeSort fun x y => decide (x ≤ y)).toArray) g1
    have hgr := grownBy_sorted (w := w) (g := b.1) (n := n) (os := os) ((l.mergeSort fun x y => decide (x ≤ y)).toArray)
    obtain ⟨w', hw'⟩ : ∃ w', grow (putRow encStr (Sort.ahead w n) b.1 0 (l.mergeSort fun x y => decide (x ≤ y)).toArray) os = w' := ⟨_, rfl⟩
    rw [hw'] at hb2 hgr ⊢
    have hro : ¬ ro b.1 := hh.own 0 _ b hget hb
    have hoth : ∀ j, j ≠ b.1 → j < w.heap.size → w'.heap[j]? = w.heap[j]? := fun j hj hlt => hgr.block j hlt (fun e => hj (by cases e; rfl))
    have hS : (l.mergeSort fun x y => decide (x ≤ y)) = sortS l := rfl
    rw [hS] at hb2
    have hk : ObRel μ ro w' b (.blk (bV (fl e_str (sortS l)) 9)) := by
      refine ⟨⟨_, fr, hb2, by simp [putCells, g0], ?_, fun h => (by cases h), fun i h1 h2 => ?_, fun i hi => ?_⟩⟩
      · show (fl e_str (sortS l)).length ≤ _
        rw [len_str, sortS_length]; simpa [putCells] using hle
      · have := g4 i h1 h2
        simpa [putCells] using this
      · have hi' : i < (sortS l).length := by have : i < (fl e_str (sortS l)).length := hi; rwa [len_str] at this
        have hi2 : i < l.length := by rwa [sortS_length] at hi'
        have e1 : (bV (fl e_str (sortS l)) 9).c.getD i .any = .str (sortS l)[i] := getD_str _ hi'
        rw [e1]
        have e4 : (putCells encStr 0 (sortS l).toArray cs).getD i undef = encStr (sortS l)[i] := by
          have hc : i < cs.size := by omega
          simp [putCells, Array.getD_eq_getD_getElem?, hc, hi']
        rw [e4]
        exact .str (by simp [encStr])
    have hh2 := hh.set hget hb hgr.size hoth hk
    refine ⟨μ, ro, Up.of_fr (.refl _ _) ⟨hgr.os, hgr.tape, hgr.output, hgr.size, fun c hc => hoth c (fun e => hro (e ▸ hc)) (hh.old c hc), fun c hc hn => hoth c (fun e => hn 0 b hb e.symm) hc, fun i l hi => .inl ⟨i, l, hi, rfl⟩⟩, .tup rfl (fun i hi => by simp at hi), hh2⟩
end Go.Proofs.YtnlaiahcemckkaaGreatDoor.Av
