import Derived.Test.YtpadimnchmghpaaGreatDoorAvZ
import Derived.Lib.LaidTab
import Derived.Sort.Grow
import Derived.Deep.Draws
open Prod (fst)
open Int (tdiv tmod)
set_option linter.unusedVariables false
set_option linter.unusedSimpArgs false
namespace Go.Proofs.YtpadimnchmghpaaGreatDoor.Av
variable {P : Program} {G : Nat → AV}
def nlz : Nat → AV → AV
 | 0, v => v
 | k + 1, v => match v with | .nils => .lst [] 0 | .agg c => .agg (c.map (nlz k)) | .tup c => .tup (c.map (nlz k)) | v => v
theorem nlz_any (k : Nat) : nlz k .any = .any := by cases k <;> rfl
theorem getD_nlz (k : Nat) (c : List AV) (i : Nat) : (c.map (nlz k)).getD i .any = nlz k (c.getD i .any) := by
 simp only [List.getD_eq_getElem?_getD, List.getElem?_map]
 cases c[i]? <;> simp [nlz_any]
theorem Rep.nlz {μ : Nat → Option Loc} {ro : Nat → Prop} {w : World} {o : Bool} : ∀ (k : Nat) {v : AV} {x : Value}, Rep μ ro w o v x → Rep μ ro w o (Av.nlz k v) x
 | 0, _, _, h => h
 | k + 1, v, x, h => by
  unfold Av.nlz
  cases v with
  | nils => cases h; exact .lstn
  | agg c => cases h with | agg hn hr => exact .agg (by simpa using hn) fun i hi => by rw [getD_nlz]; exact Rep.nlz k (hr i (by simpa using hi))
  | tup c => cases h with | tup hn hr => exact .tup (by simpa using hn) fun i hi => by rw [getD_nlz]; exact Rep.nlz k (hr i (by simpa using hi))
  | _ => exact h
theorem Ret.nl (k : Nat) {f : FuncId} {args : List AV} {r r' : AV} {blks : List Blk} (h : Ret P G f args r blks) (e : nlz k r = r') : Ret P G f args r' blks := by
 subst e
 intro ro w vs hlt hr hg
 refine (h ro w vs hlt hr hg).mono ?_
 rintro e w' ⟨μ', ro', h1, h2, h3⟩
 refine ⟨μ', ro', h1, ?_, h3⟩
 cases e with
 | returned x => exact Rep.nlz k h2
 | _ => exact h2
theorem reps_one {μ : Nat → Option Loc} {ro : Nat → Prop} {w : World} {o : Bool} {a : AV} {vs : Array Value} (h : Reps μ ro w o [a] vs.toList) : ∃ x, vs = #[x] ∧ Rep μ ro w o a x := by
 obtain ⟨l⟩ := vs
 obtain ⟨h1, h2⟩ := h
 match l, h1 with
 | [x], _ => exact ⟨x, rfl, h2 0 (by simp)⟩
theorem reps_two {μ : Nat → Option Loc} {ro : Nat → Prop} {w : World} {o : Bool} {a b : AV} {vs : Array Value} (h : Reps μ ro w o [a, b] vs.toList) : ∃ x y, vs = #[x, y] ∧ Rep μ ro w o a x ∧ Rep μ ro w o b y := by
 obtain ⟨l⟩ := vs
 obtain ⟨h1, h2⟩ := h
 match l, h1 with
 | [x, y], _ => exact ⟨x, y, rfl, h2 0 (by simp), h2 1 (by simp)⟩
end Go.Proofs.YtpadimnchmghpaaGreatDoor.Av
