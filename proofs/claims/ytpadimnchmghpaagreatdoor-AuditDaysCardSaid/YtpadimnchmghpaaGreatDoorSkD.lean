import Derived.Test.YtpadimnchmghpaaGreatDoorM1
import Derived.Test.YtpadimnchmghpaaGreatDoorAvSk
import Derived.Shelf.SlIter.Nil
import Derived.Shelf.SlIterI.Nil
import Derived.Shelf.SortM.Plain
import Derived.Shelf.SortM.SortNone
import Derived.Ground.GgzProg
import Derived.Ground.SlgmProg
open Prod (fst)
open Int (tdiv tmod)
set_option linter.unusedVariables false
set_option linter.unusedSimpArgs false
namespace Go.Proofs.YtpadimnchmghpaaGreatDoor.Av
open Go.RowKit Go.MapKept Go.Maps Go.Shelf Go.Proofs
def nmOf (P : Program) (f : Nat) : String := match P.funcs[f]? with | some x => x.name | none => ""
theorem bears_nm {P : Program} {f : Nat} {B : Func} (h1 : (nmOf P f == "runtime.NumGoroutine") = false) (h2 : P.funcs[f]? = some { B with name := nmOf P f }) : Go.Proofs.Bears P f B := ⟨_, h1, h2⟩
theorem fl_e_str : ∀ l : List (List UInt8), fl e_str l = l.map (fun x => AV.str x)
 | [] => rfl
 | x :: l => by rw [fl_cons, fl_e_str l]; rfl
theorem fl_e_i64 : ∀ l : List Int, fl e_i64 l = l.map (fun x => AV.int .i64 x)
 | [] => rfl
 | x :: l => by rw [fl_cons, fl_e_i64 l]; rfl
def strK : AV → List UInt8
 | .str s => s
 | _ => []
def intK : AV → Int
 | .int _ n => n
 | _ => 0
def kS_ren : Go.Shelf.Ren := ⟨fun x => match x with | 7 => 34 | 10 => 60 | n => n, fun x => match x with | 23 => 96 | 26 => 9 | 3 => 35 | 28 => 103 | 0 => 0 | 27 => 102 | 33 => 130 | 4 => 4 | n => n, fun n => n⟩
theorem kS : Go.Proofs.SlLaysZ.n7 Tryz.prog kS_ren := by
 constructor <;> first | kernel_rfl | (intro w; kernel_rfl) | exact bears_nm (by kernel_rfl) (by kernel_rfl)
def sS_ren : Go.Shelf.Ren := ⟨fun x => match x with | 6 => 33 | 8 => 58 | 9 => 59 | 11 => 84 | 13 => 86 | 12 => 85 | 23 => 122 | 24 => 123 | 14 => 113 | 15 => 114 | 16 => 115 | 17 => 116 | 18 => 117 | 19 => 118 | 20 => 119 | 21 => 120 | 22 => 121 | 25 => 181 | 26 => 182 | 27 => 183 | 28 => 184 | 29 => 185 | 30 => 186 | 31 => 269 | n => n, fun x => match x with | 26 => 9 | 28 => 103 | 24 => 100 | 0 => 0 | 3 => 3 | 37 => 165 | 48 => 216 | 50 => 41 | 4 => 4 | 40 => 209 | 39 => 208 | 45 => 213 | 5 => 5 | 9 => 9 | 51 => 284 | 55 => 288 | 57 => 407 | 58 => 408 | 33 => 130 | n => n, fun n => n⟩
theorem sS : Go.Proofs.SlLaysZ.n6 Tryz.prog sS_ren := by
 constructor <;> first | kernel_rfl | (intro w; kernel_rfl) | exact bears_nm (by kernel_rfl) (by kernel_rfl)
def tS_ren : Go.Shelf.Ren := ⟨fun x => match x with | 6 => 59 | 8 => 86 | 9 => 85 | 19 => 122 | 20 => 123 | 21 => 113 | 22 => 114 | 23 => 115 | 24 => 116 | 25 => 117 | 26 => 118 | 27 => 119 | 28 => 120 | 29 => 121 | 36 => 181 | 31 => 182 | 32 => 183 | 37 => 184 | 38 => 185 | 39 => 186 | 41 => 269 | n => n, fun x => match x with | 27 => 100 | 29 => 9 | 3 => 3 | 32 => 165 | 26 => 100 | 0 => 0 | 44 => 216 | 46 => 41 | 4 => 4 | 36 => 209 | 35 => 208 | 41 => 213 | 5 => 5 | 9 => 9 | 53 => 284 | 57 => 288 | 63 => 407 | 64 => 408 | n => n, fun n => n⟩
theorem tS : Go.Proofs.SlLaysM.n6 Tryz.prog tS_ren := by
 constructor <;> first | kernel_rfl | (intro w; kernel_rfl) | exact bears_nm (by kernel_rfl) (by kernel_rfl)
def kI_ren : Go.Shelf.Ren := ⟨fun x => match x with | 7 => 46 | 10 => 69 | n => n, fun x => match x with | 23 => 112 | 26 => 3 | 3 => 3 | 28 => 118 | 0 => 0 | 27 => 117 | 33 => 133 | 4 => 4 | n => n, fun n => n⟩
theorem kI : Go.Proofs.SlLaysZI.n7 Tryz.prog kI_ren := by
 constructor <;> first | kernel_rfl | (intro w; kernel_rfl) | exact bears_nm (by kernel_rfl) (by kernel_rfl)
def sI_ren : Go.Shelf.Ren := ⟨fun x => match x with | 6 => 45 | 8 => 67 | 9 => 68 | 11 => 91 | 13 => 86 | 12 => 92 | 23 => 122 | 24 => 123 | 14 => 126 | 15 => 127 | 16 => 128 | 17 => 129 | 18 => 130 | 19 => 131 | 20 => 132 | 21 => 133 | 22 => 134 | 25 => 188 | 26 => 182 | 27 => 183 | 28 => 189 | 29 => 190 | 30 => 112 | 31 => 270 | n => n, fun x => match x with | 26 => 3 | 28 => 118 | 24 => 60 | 0 => 0 | 3 => 3 | 37 => 165 | 48 => 216 | 50 => 41 | 4 => 4 | 40 => 209 | 39 => 208 | 45 => 213 | 5 => 5 | 9 => 9 | 51 => 284 | 55 => 288 | 57 => 407 | 58 => 408 | 33 => 133 | n => n, fun n => n⟩
theorem sI : Go.Proofs.SlLaysZI.n6 Tryz.prog sI_ren := by
 constructor <;> first | kernel_rfl | (intro w; kernel_rfl) | exact bears_nm (by kernel_rfl) (by kernel_rfl)
def tI_ren : Go.Shelf.Ren := ⟨fun x => match x with | 5 => 68 | 8 => 86 | 7 => 92 | 19 => 122 | 20 => 123 | 10 => 126 | 11 => 127 | 12 => 128 | 13 => 129 | 14 => 130 | 15 => 131 | 16 => 132 | 17 => 133 | 18 => 134 | 30 => 188 | 31 => 182 | 32 => 183 | 33 => 189 | 34 => 190 | 35 => 112 | 40 => 270 | n => n, fun x => match x with | 23 => 60 | 25 => 3 | 3 => 3 | 32 => 165 | 22 => 60 | 0 => 0 | 44 => 216 | 46 => 41 | 4 => 4 | 36 => 209 | 35 => 208 | 41 => 213 | 5 => 5 | 9 => 9 | 53 => 284 | 57 => 288 | 63 => 407 | 64 => 408 | n => n, fun n => n⟩
theorem tI : Go.Proofs.SlLaysM.n5 Tryz.prog tI_ren := by
 constructor <;> first | kernel_rfl | (intro w; kernel_rfl) | exact bears_nm (by kernel_rfl) (by kernel_rfl)
theorem sortsS (m : Nat) : Go.Proofs.AnyZ.SortsIn Tryz.prog sS_ren Fence.wide m :=
 ⟨fun blk off cap ss W hH hblk hsz => callsIn_wide.2 (Go.Proofs.AnyM.slices_Sort_string tS blk off cap ss W hH hblk hsz),
  fun p cap W => callsIn_wide.2 (Go.Proofs.AnyM.slices_Sort_string_none tS p cap W)⟩
def sortS (l : List (List UInt8)) : List (List UInt8) := l.mergeSort (fun x y => decide (x ≤ y))
def SkS (l : List (List UInt8)) : Prop := l.length * 16 ≤ 140737488355328 ∧ ∀ k ∈ l, k.length ≤ maxLen
instance (l : List (List UInt8)) : Decidable (SkS l) := by unfold SkS; infer_instance
theorem sortedS_key (l : List ((List UInt8) × TC)) (h : SkS (l.map fst)) {μ : Nat → Option Loc} {ro : Nat → Prop} {w : World} {b : Loc} (hm : MapRel μ ro w b .s (l.map mTC)) :
  ∃ ds : List (Lit × DataW Unit), w.ownsMap Tryz.prog 9 noElem b.1 (l.map mTC).length (.map ds) ∧ ds.length = (l.map mTC).length ∧ (ds.map fun p => Go.strOf p.1).Perm (l.map fst) := by
 have hu : (Tryz.prog).underlying 9 = some (.string) := by kernel_rfl
 have hk : ∀ e ∈ l.map mTC, ∀ v, keyVal .s e.1 = some v → ∃ k, e.1 = .str k ∧ keyOf Tryz.prog 9 v = some (.string k) := by
  intro e he v hv
  obtain ⟨x, hx, rfl⟩ := List.mem_map.1 he
  refine ⟨x.1, rfl, ?_⟩
  have h1 := h.2 x.1 (List.mem_map.2 ⟨x, hx, rfl⟩)
  simp only [mTC, keyVal, if_pos, sJ] at hv
  subst hv
  simp [keyOf, hu, mapKey]; simpa [ByteArray.size] using h1
 obtain ⟨ds, h1, h2, h3⟩ := map_owns (P := Tryz.prog) (kt := 9) hm (by
   have h1 := h.1
   simp only [List.length_map] at h1 ⊢
   have : maxLen = 9223372036854775807 := rfl
   omega) (fun e he v hv => by obtain ⟨k, _, h4⟩ := hk e he v hv; exact ⟨_, h4⟩) (List UInt8) Go.strOf strK
  (fun e he v l hv hl => by
   obtain ⟨k, h4, h5⟩ := hk e he v hv
   rw [h5] at hl; cases hl
   rw [h4]; rfl)
 refine ⟨ds, h1, h2, ?_⟩
 rwa [show (l.map mTC).map (fun e => strK e.1) = l.map fst by rw [List.map_map]; rfl] at h3
theorem sortedS_calls (l : List ((List UInt8) × TC)) (h : SkS (l.map fst)) : CallsM Tryz.prog G0 2 33 [.fn (.func 60) [] [.ptr 0 0]] [bF [.mapr 1] 96, bM .s (l.map mTC)] (.vec 2 (sortS (l.map fst)).length 1) [bF [.mapr 1] 96, bM .s (l.map mTC), bV (fl e_str (sortS (l.map fst))) 9] := by
 intro μ ro w vs ha hh hg
 obtain ⟨x, rfl, hx⟩ := reps_one ha
 cases hx with
 | fn hn hr hm hs =>
 rename_i qs cs
 have e1 : qs = #[] := Array.eq_empty_of_size_eq_zero (by simpa using hn)
 subst e1
 obtain ⟨cs⟩ := cs
 match cs, hm with
 | [p], _ =>
 have hp := hs 0 (by simp)
 simp only [List.getD_cons_zero, Array.getD_eq_getD_getElem?, List.getElem?_toArray, List.getElem?_cons_zero, Option.getD_some] at hp
 obtain ⟨B, hB, rfl⟩ : ∃ B, μ 0 = some B ∧ p = .pointer (some ⟨B.1, 0, none⟩) := by cases hp with | ptr hB => exact ⟨_, hB, rfl⟩
 obtain ⟨mb, hmb, hmap⟩ := hh.obsT 1 (.map .s (l.map mTC)) (by kernel_rfl)
 have hcell : w.cell? ⟨B.1, 0, none⟩ = some (.map (some mb.1)) := by
  obtain ⟨cs, fr, g1, g2, g3, g4, g5, g6⟩ := BlkRel.get (hh.obsM 0 (.blk (bF [.mapr 1] 96)) B (by kernel_rfl) hB)
  have h0 := g6 0 (by simp)
  have hsz : 0 < cs.size := by simp at g3; omega
  simp only [List.getD_cons_zero] at h0
  have hv : cs.getD 0 undef = .map (some mb.1) := by
   generalize cs.getD 0 undef = y at h0
   cases h0 with
   | mapr h1 => rw [hmb] at h1; cases h1; rfl
  simp only [World.cell?, g1]
  rw [Array.getD_eq_getD_getElem?, Array.getElem?_eq_getElem hsz] at hv
  simp only [Option.getD_some] at hv
  simp [Array.getElem?_eq_getElem hsz, hv]
 have hBlt := hh.lt 0 B hB
 obtain ⟨ds, hown, hlen, hperm⟩ := sortedS_key l h hmap
 have hsize : Maps.size (DataW.map ds) = (l.map fst).length := by
  show ds.length = _
  rw [hlen]; simp
 have hseq : SeqGives Fence.wide 2 Tryz.prog 60 #[.pointer (some ⟨B.1, 0, none⟩)] Go.Proofs.encStr (fun ss => ss.Perm (strKeys (DataW.map ds))) (Maps.size (DataW.map ds)) w :=
  Go.Proofs.AnyZ.keys_gives (ρ := kS_ren) { kS with } Fence.wide _ trivial rfl (by omega) B.1 mb.1 _ (DataW.map ds) w hBlt hcell hown
 have hb := h.1
 have hml : maxLen = 9223372036854775807 := rfl
 have cS := Go.Proofs.AnyZ.sorted_in sS Fence.wide 5 trivial trivial trivial trivial rfl (by omega) (sortsS _) (enters_of Tryz.func59 (by kernel_rfl) rfl) 60 #[.pointer (some ⟨B.1, 0, none⟩)] trivial (enters_of Tryz.func60 (by kernel_rfl) rfl) _ _ (by rw [hsize]; omega) (by rw [hsize]; omega) _ hseq
 refine (callsIn_wide.1 cS).mono ?_
 rintro e w' ⟨v, ss, rfl, hS, hrow, hnil, hbel⟩
 have hsort : ss.mergeSort (fun x y => decide (x ≤ y)) = sortS (l.map fst) := Go.mergeSort_of_perm (hS.trans hperm)
 have hss : ss.length = (sortS (l.map fst)).length := by rw [← hsort, List.length_mergeSort]
 rw [hsort, hss] at hrow
 refine cpost_row (c := fl e_str (sortS (l.map fst))) hh hbel hrow (fl_length1 (fun _ => rfl) _) fun μ ro i hi => ?_
 rw [show (fl e_str (sortS (l.map fst))).getD i .any = .str ((sortS (l.map fst))[i]'hi) by
  rw [show fl e_str (sortS (l.map fst)) = (sortS (l.map fst)).map (fun x => AV.str x) from fl_e_str _]
  rw [List.getD_eq_getElem?_getD, List.getElem?_map, List.getElem?_eq_getElem hi]; rfl]
 rw [show ((sortS (l.map fst)).map Go.Proofs.encStr).getD i undef = Go.Proofs.encStr ((sortS (l.map fst))[i]'hi) by
  rw [List.getD_eq_getElem?_getD, List.getElem?_map, List.getElem?_eq_getElem hi]; rfl]
 exact .str (by simp [Go.Proofs.encStr])
theorem sortsI (m : Nat) : Go.Proofs.AnyZI.SortsIn Tryz.prog sI_ren Fence.wide m :=
 ⟨fun blk off cap ss W hH hblk hsz => callsIn_wide.2 (Go.Proofs.AnyM.slices_Sort_int tI blk off cap ss W hH hblk hsz),
  fun p cap W => callsIn_wide.2 (Go.Proofs.AnyM.slices_Sort_int_none tI p cap W)⟩
def sortI (l : List Int) : List Int := l.mergeSort (fun x y => decide (x ≤ y))
def SkI (l : List Int) : Prop := l.length * 8 ≤ 140737488355328 ∧ ∀ k ∈ l, (Lit.int .i64 k).wf = true
instance (l : List Int) : Decidable (SkI l) := by unfold SkI; infer_instance
theorem sortedI_key (l : List (Int × Int)) (h : SkI (l.map fst)) {μ : Nat → Option Loc} {ro : Nat → Prop} {w : World} {b : Loc} (hm : MapRel μ ro w b (.i .i64) (l.map mI)) :
  ∃ ds : List (Lit × DataW Unit), w.ownsMap Tryz.prog 3 noElem b.1 (l.map mI).length (.map ds) ∧ ds.length = (l.map mI).length ∧ (ds.map fun p => Go.intOf p.1).Perm (l.map fst) := by
 have hu : (Tryz.prog).underlying 3 = some (.int .i64) := by kernel_rfl
 have hk : ∀ e ∈ l.map mI, ∀ v, keyVal (.i .i64) e.1 = some v → ∃ k, e.1 = .int .i64 k ∧ keyOf Tryz.prog 3 v = some (.int .i64 k) := by
  intro e he v hv
  obtain ⟨x, hx, rfl⟩ := List.mem_map.1 he
  refine ⟨x.1, rfl, ?_⟩
  have h1 := h.2 x.1 (List.mem_map.2 ⟨x, hx, rfl⟩)
  simp only [mI, keyVal, if_pos, sJ] at hv
  subst hv
  simp [keyOf, hu, mapKey, h1]
 obtain ⟨ds, h1, h2, h3⟩ := map_owns (P := Tryz.prog) (kt := 3) hm (by
   have h1 := h.1
   simp only [List.length_map] at h1 ⊢
   have : maxLen = 9223372036854775807 := rfl
   omega) (fun e he v hv => by obtain ⟨k, _, h4⟩ := hk e he v hv; exact ⟨_, h4⟩) Int Go.intOf intK
  (fun e he v l hv hl => by
   obtain ⟨k, h4, h5⟩ := hk e he v hv
   rw [h5] at hl; cases hl
   rw [h4]; rfl)
 refine ⟨ds, h1, h2, ?_⟩
 rwa [show (l.map mI).map (fun e => intK e.1) = l.map fst by rw [List.map_map]; rfl] at h3
theorem sortedI_calls (l : List (Int × Int)) (h : SkI (l.map fst)) : CallsM Tryz.prog G0 2 45 [.fn (.func 69) [] [.ptr 0 0]] [bF [.mapr 1] 112, bM (.i .i64) (l.map mI)] (.vec 2 (sortI (l.map fst)).length 1) [bF [.mapr 1] 112, bM (.i .i64) (l.map mI), bV (fl e_i64 (sortI (l.map fst))) 3] := by
 intro μ ro w vs ha hh hg
 obtain ⟨x, rfl, hx⟩ := reps_one ha
 cases hx with
 | fn hn hr hm hs =>
 rename_i qs cs
 have e1 : qs = #[] := Array.eq_empty_of_size_eq_zero (by simpa using hn)
 subst e1
 obtain ⟨cs⟩ := cs
 match cs, hm with
 | [p], _ =>
 have hp := hs 0 (by simp)
 simp only [List.getD_cons_zero, Array.getD_eq_getD_getElem?, List.getElem?_toArray, List.getElem?_cons_zero, Option.getD_some] at hp
 obtain ⟨B, hB, rfl⟩ : ∃ B, μ 0 = some B ∧ p = .pointer (some ⟨B.1, 0, none⟩) := by cases hp with | ptr hB => exact ⟨_, hB, rfl⟩
 obtain ⟨mb, hmb, hmap⟩ := hh.obsT 1 (.map (.i .i64) (l.map mI)) (by kernel_rfl)
 have hcell : w.cell? ⟨B.1, 0, none⟩ = some (.map (some mb.1)) := by
  obtain ⟨cs, fr, g1, g2, g3, g4, g5, g6⟩ := BlkRel.get (hh.obsM 0 (.blk (bF [.mapr 1] 112)) B (by kernel_rfl) hB)
  have h0 := g6 0 (by simp)
  have hsz : 0 < cs.size := by simp at g3; omega
  simp only [List.getD_cons_zero] at h0
  have hv : cs.getD 0 undef = .map (some mb.1) := by
   generalize cs.getD 0 undef = y at h0
   cases h0 with
   | mapr h1 => rw [hmb] at h1; cases h1; rfl
  simp only [World.cell?, g1]
  rw [Array.getD_eq_getD_getElem?, Array.getElem?_eq_getElem hsz] at hv
  simp only [Option.getD_some] at hv
  simp [Array.getElem?_eq_getElem hsz, hv]
 have hBlt := hh.lt 0 B hB
 obtain ⟨ds, hown, hlen, hperm⟩ := sortedI_key l h hmap
 have hsize : Maps.size (DataW.map ds) = (l.map fst).length := by
  show ds.length = _
  rw [hlen]; simp
 have hseq : SeqGives Fence.wide 2 Tryz.prog 69 #[.pointer (some ⟨B.1, 0, none⟩)] Go.encZ (fun ss => ss.Perm (intKeys (DataW.map ds))) (Maps.size (DataW.map ds)) w :=
  Go.Proofs.AnyZI.keys_gives (ρ := kI_ren) { kI with } Fence.wide _ trivial rfl (by omega) B.1 mb.1 _ (DataW.map ds) w hBlt hcell hown
 have hb := h.1
 have hml : maxLen = 9223372036854775807 := rfl
 have cS := Go.Proofs.AnyZI.sorted_in sI Fence.wide 5 trivial trivial trivial trivial rfl (by omega) (sortsI _) (enters_of Tryz.func68 (by kernel_rfl) rfl) 69 #[.pointer (some ⟨B.1, 0, none⟩)] trivial (enters_of Tryz.func69 (by kernel_rfl) rfl) _ _ (by rw [hsize]; omega) (by rw [hsize]; omega) _ hseq
 refine (callsIn_wide.1 cS).mono ?_
 rintro e w' ⟨v, ss, rfl, hS, hrow, hnil, hbel⟩
 have hsort : ss.mergeSort (fun x y => decide (x ≤ y)) = sortI (l.map fst) := Go.mergeSort_of_perm_i (hS.trans hperm)
 have hss : ss.length = (sortI (l.map fst)).length := by rw [← hsort, List.length_mergeSort]
 rw [hsort, hss] at hrow
 refine cpost_row (c := fl e_i64 (sortI (l.map fst))) hh hbel hrow (fl_length1 (fun _ => rfl) _) fun μ ro i hi => ?_
 rw [show (fl e_i64 (sortI (l.map fst))).getD i .any = .int .i64 ((sortI (l.map fst))[i]'hi) by
  rw [show fl e_i64 (sortI (l.map fst)) = (sortI (l.map fst)).map (fun x => AV.int .i64 x) from fl_e_i64 _]
  rw [List.getD_eq_getElem?_getD, List.getElem?_map, List.getElem?_eq_getElem hi]; rfl]
 rw [show ((sortI (l.map fst)).map Go.encZ).getD i undef = Go.encZ ((sortI (l.map fst))[i]'hi) by
  rw [List.getD_eq_getElem?_getD, List.getElem?_map, List.getElem?_eq_getElem hi]; rfl]
 exact .int
end Go.Proofs.YtpadimnchmghpaaGreatDoor.Av
