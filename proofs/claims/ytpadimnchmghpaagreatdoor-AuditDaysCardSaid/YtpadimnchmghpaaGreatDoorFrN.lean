import Derived.Test.YtpadimnchmghpaaGreatDoorAvSk
import Derived.RangeFuncFrom
import Derived.RangeFuncCalls
import Derived.RangeFuncLeaves
import Derived.Shelf.Abstract
import Derived.Shelf.RegionOpen
import Derived.Shelf.AbstractIn
import Derived.OwnWalkIn
import Derived.TacticsInMore
import Derived.LoopNIn
import Derived.LoopIn
import Derived.Test.YtpadimnchmghpaaGreatDoorProg
import Derived.Tactics
open Prod (fst)
open Int (tdiv tmod)
set_option linter.unusedVariables false
set_option linter.unusedSimpArgs false
namespace Go.Proofs.YtpadimnchmghpaaGreatDoor.Av
open Go.RowKit Go.MapKept Go.Maps Go.Shelf Go.Proofs
theorem frames_it (g : Int) : Ret Tryz.prog G0 272 [.any, .rop [.nils] 0, .rop [.int .i64 g] 0] (.tup []) [] :=
 Ret.of_view 400 [] [] (ps := []) (by kernel_rfl) (by kernel_rfl) trivial
theorem frames_it_calls (l Bl Bg : Nat) (g : Int) (W : World) (hl : Bl < W.heap.size) (hg : Bg < W.heap.size) (h1 : W.cell? ⟨Bl, 0, none⟩ = some (.slice none 0 0)) (h2 : W.cell? ⟨Bg, 0, none⟩ = some (.int .i64 g)) :
  Calls Tryz.prog 272 #[.func (.yield l) #[] #[], .pointer (some ⟨Bl, 0, none⟩), .pointer (some ⟨Bg, 0, none⟩)] W fun e W' => (∃ v, e = .returned v) ∧ W.grownBy W' none := by
 refine (frames_it g (fun b => b < W.heap.size) W _ (fun _ h => h) ?_ glAny).mono ?_
 ·refine Reps.cons .any (Reps.cons ?_ (Reps.cons ?_ Reps.nil))
  ·exact Rep.rop (p := 0) (fun _ => .slice none 0 0) hl (fun i hi => by simp at hi; subst hi; exact h1) (fun i hi => by simp at hi; subst hi; exact .nils)
  ·exact Rep.rop (p := 0) (fun _ => .int .i64 g) hg (fun i hi => by simp at hi; subst hi; exact h2) (fun i hi => by simp at hi; subst hi; exact .int)
 ·rintro e W' ⟨μ', ro', hup, hco, hh⟩
  cases e with
  | returned v => exact ⟨⟨v, rfl⟩, ⟨hup.fr.os, hup.fr.tape, hup.fr.output, hup.fr.size, fun k hk _ => hup.fr.block k hk⟩⟩
  | panicked c => exact hco.elim
  | outgrown => exact hco.elim
theorem frames_stops (n : Nat) (Bl Bg : Nat) (g : Int) (w : World) (hl : Bl < w.heap.size) (hg : Bg < w.heap.size) (h1 : w.cell? ⟨Bl, 0, none⟩ = some (.slice none 0 0)) (h2 : w.cell? ⟨Bg, 0, none⟩ = some (.int .i64 g)) :
  SeqStopsK Fence.wide n Tryz.prog 272 #[.pointer (some ⟨Bl, 0, none⟩), .pointer (some ⟨Bg, 0, none⟩)] (fun x : Value => #[x]) KeepsWalks (fun xs => xs = []) (fun _ => False) 0 w := fun l J _ W hW hJ _ _ h0 =>
 callsIn_wide.2 ((frames_it_calls l Bl Bg g W (Nat.lt_of_lt_of_le hl hW.size) (Nat.lt_of_lt_of_le hg hW.size) ((hW.cell (p := ⟨Bl, 0, none⟩) hl).trans h1) ((hW.cell (p := ⟨Bg, 0, none⟩) hg).trans h2)).mono fun _ W' ⟨he, hgr⟩ => ⟨he, .inl ⟨[], rfl, hJ [] W W' none h0 hgr (fun r e => by cases e)⟩⟩)
set_option maxRecDepth 100000 in
set_option maxHeartbeats 2000000 in
theorem frames_mk (g : Int) (w : World) : Calls Tryz.prog 194 #[.slice none 0 0, .int .i64 g] w fun e w' =>
  e = .returned (.func (.func 272) #[] #[.pointer (some ⟨w.heap.size, 0, none⟩), .pointer (some ⟨w.heap.size + 1, 0, none⟩)]) ∧ w' = (w.alloc (.cells #[.slice none 0 0] 74)).alloc (.cells #[.int .i64 g] 3) := by
 go_enter Tryz.func194, Tryz.ntmps194
 go_wp2
 go_ret
 exact ⟨rfl, rfl⟩
theorem cell_of_boxF {W : World} {B : Nat} {v : Value} {t : TypeId} (h : W.heap[B]? = some (.cells #[v] t (0, 0))) : W.cell? ⟨B, 0, none⟩ = some v := by simp [World.cell?, h]
attribute [local go_sem] Oper.semAt_some
set_option maxRecDepth 100000 in
set_option maxHeartbeats 2000000 in
theorem frames_nil (g : Int) (w : World) : Calls Tryz.prog 143 #[.slice none 0 0, .int .i64 g] w fun e w' => e = .returned (.slice none 0 0) ∧ Below w.heap.size w w' := by
 refine (callsIn_wide (n := 6)).1 ?_
 have h1 : 1 ≤ 6 := by omega
 have hro : Fence.wide.round = none := rfl
 have hfK : Fence.wide.fn 194 := trivial
 refine callsIn_of_wp_marks Tryz.func143 rfl trivial ?_ hro
 simp only [Tryz.ntmps143, List.size_toArray, List.length_cons, List.length_nil, Nat.reduceAdd, Nat.reduceSub, Array.replicate_succ, Array.replicate_zero, List.push_toArray, List.append_toArray, List.nil_append, List.cons_append]
 gi_wp2_with (gi_at_call 194; refine (callsIn_wide.2 (frames_mk g _)).mono ?_; rintro e w' ⟨rfl, rfl⟩)
 obtain ⟨W0, hW0⟩ : ∃ W0, ((w.alloc (.cells #[.slice none 0 0] 230)).alloc (.cells #[.slice none 0 0] 74)).alloc (.cells #[.int .i64 g] 3) = W0 := ⟨_, rfl⟩
 have hs0 : W0.heap.size = w.heap.size + 3 := by rw [← hW0]; simp
 have hB0 : W0.heap[w.heap.size]? = some (.cells #[.slice none 0 0] 230 (0, 0)) := by
  rw [← hW0]; exact ((Below.heap_alloc _ _ _ (by simp; omega)).trans (Below.heap_alloc _ _ _ (by simp))).trans (World.alloc_heap_new w _)
 have hB1 : W0.heap[w.heap.size + 1]? = some (.cells #[.slice none 0 0] 74 (0, 0)) := by
  rw [← hW0]; refine (Below.heap_alloc _ _ _ (by simp)).trans ?_
  have := World.alloc_heap_new (w.alloc (.cells #[.slice none 0 0] 230)) (.cells #[.slice none 0 0] 74); rwa [World.size_alloc] at this
 have hB2 : W0.heap[w.heap.size + 1 + 1]? = some (.cells #[.int .i64 g] 3 (0, 0)) := by
  rw [← hW0]; have := World.alloc_heap_new ((w.alloc (.cells #[.slice none 0 0] 230)).alloc (.cells #[.slice none 0 0] 74)) (.cells #[.int .i64 g] 3); rwa [World.size_alloc, World.size_alloc] at this
 have hBW : Below w.heap.size w W0 := by rw [← hW0]; exact (((Below.refl _ w).alloc (Nat.le_refl _) _).alloc (by simp) _).alloc (by simp; omega) _
 rw [hW0]
 refine wpIn_rangeFunc_ownF hro h1 (gf := 272) (lb := #[.pointer (some ⟨w.heap.size + 1, 0, none⟩), .pointer (some ⟨w.heap.size + 1 + 1, 0, none⟩)]) rfl trivial (enters_of Tryz.func272 (by kernel_rfl) rfl)
  (frames_stops 5 (w.heap.size + 1) (w.heap.size + 1 + 1) g W0 (by omega) (by omega) (cell_of_boxF hB1) (cell_of_boxF hB2)) walksK_t walksK_b (Below.refl _ _) (fun _ => rfl)
  (fun pre W => W.cell? ⟨w.heap.size, 0, none⟩ = some (.slice none 0 0) ∧ Below w.heap.size w W)
  (fun c pre W => False)
  (OwnFrom.and (Own.from (fun s A B row hs hg hr => cell_kept hs hg hr) _) (ownFrom_below (Nat.le_refl _) (by omega)))
  (fun c => Own.from (fun s A B row hs hg hr => hs) _)
  ⟨(cell_of_boxF hB0), hBW⟩
  (fun x => { tmps := #[.slice none 0 0, .int .i64 g, undef, undef, .slice none 0 0, .pointer (some ⟨w.heap.size, 0, none⟩), x, .slice none 0 0, .int .i64 g, .func (.func 272) #[] #[.pointer (some ⟨w.heap.size + 1, 0, none⟩), .pointer (some ⟨w.heap.size + 1 + 1, 0, none⟩)], x, undef, undef, undef, undef, undef], defers := [] }) ?assign ?body ?done ?stop
 case assign =>
  intro l x W K hK
  gi_wp2
  exact hK
 case body =>
  rintro l pre x W _ h
  exact absurd h (Nat.not_lt_zero _)
 case done =>
  rintro D xs W hD hxs ⟨hcr, hB⟩ hK
  gi_wp2
  refine ⟨by simp, .inl ⟨_, _, rfl, run_takeDeferred hK, ?_⟩⟩
  refine ⟨.slice none 0 0, ?_, rfl, hB.trans (belowK_b (w := w) (Nat.le_refl _) _ D _ _ (by omega) hK rfl rfl)⟩
  simp [results, Tryz.f143, go_sem]
 case stop =>
  rintro D c pre W hD hF _ _
  exact hF.elim
theorem framesNil_calls (g : Int) : CallsM Tryz.prog G0 0 143 [.nils, .int .i64 g] [] .nils [] := by
 intro μ ro w vs ha hh hg
 obtain ⟨x, y, rfl, hx, hy⟩ := reps_two ha
 cases hx with
 | nils =>
 cases hy with
 | int =>
 refine (frames_nil g w).mono ?_
 rintro e w' ⟨rfl, hB⟩
 have hfr : Fr μ ro w μ w' := ⟨hB.os, hB.tape, hB.output, hB.size, fun b hb => hB.block b (hh.old b hb), fun b hb _ => hB.block b hb, fun i l h => .inl ⟨i, l, h, rfl⟩⟩
 exact ⟨μ, ro, ⟨.refl _ _, fun _ h => h, fun _ h => .inl h, hfr⟩, .nils, hh.same hB.size (fun b hb => hB.block b (hh.old b hb)) (fun i k b hi hb => hB.block _ (hh.lt i b hb))⟩
end Go.Proofs.YtpadimnchmghpaaGreatDoor.Av
