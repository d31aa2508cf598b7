/- Contracts of the kit's library as contracts over abstract values; tables that lie in variables. -/
import Derived.Test.YtalobodhbbkgdabDoorAvZ
import Derived.Lib.LaidTab
import Derived.Sort.Grow
import Derived.Deep.Draws
set_option linter.unusedVariables false
set_option linter.unusedSimpArgs false
namespace Go.Proofs.YtalobodhbbkgdabDoor.Av
variable {P : Program} {G : Nat → AV}
/-- A call that only lays new blocks and draws, and gives back what needs no memory. -/
theorem Ret.of_calls {f : FuncId} {args : List AV} {r : AV}
    (h : ∀ (ro : Nat → Prop) w (vs : Array Value), (∀ b, ro b → b < w.heap.size) → Reps (fun _ => none) ro w false args vs.toList → GlRel G (fun _ => none) ro w →
      Calls P f vs w fun e w' => (∃ x, e = .returned x ∧ ∀ μ ro' w'', Rep μ ro' w'' true r x) ∧ ∃ k os, w' = Go.Sort.grow (w.drewN k) os) : Ret P G f args r [] := by
  intro ro w vs hlt hr hg
  refine (h ro w vs hlt hr hg).mono ?_
  rintro e w' ⟨⟨x, rfl, hx⟩, k, os, rfl⟩
  have hs : w.heap.size ≤ (Go.Sort.grow (w.drewN k) os).heap.size := by simp [Go.Sort.grow, World.drewN]
  have hold : ∀ b, b < w.heap.size → (Go.Sort.grow (w.drewN k) os).heap[b]? = w.heap[b]? := fun b hb => by
    simp only [Go.Sort.grow, World.drewN]
    rw [Array.getElem?_append_left hb]
  refine ⟨fun _ => none, ro, ⟨fun _ _ => rfl, fun _ h => h, fun _ h => .inl h, ⟨rfl, rfl, rfl, hs, fun b hb => hold b (hlt b hb), fun b hb _ => hold b hb, fun i l h => by cases h⟩⟩, hx _ _ _, ?_⟩
  have he : ∀ (i : Nat) (k : Ob), (hpOf [] ⟨.e, 0⟩).m.get i ≠ some k := fun i k h => by
    have : (hpOf [] ⟨.e, 0⟩).m.get i = none := Tr.get_e i
    rw [this] at h; cases h
  exact ⟨fun i k h => (he i k h).elim, fun i j k l b c h _ _ _ _ => (he i k h).elim, fun i k b h _ => (he i k h).elim, fun i b h => (by cases h), fun b hb => Nat.lt_of_lt_of_le (hlt b hb) hs, fun i _ => rfl⟩
/-- nil slices as lists that are empty -/
def nlz : Nat → AV → AV
  | 0, v => v
  | k + 1, v => match v with | .nils => .lst [] 0 | .agg c => .agg (c.map (nlz k)) | .tup c => .tup (c.map (nlz k)) | v => v
theorem nlz_any (k : Nat) : nlz k .any = .any := by cases k <;> rfl
theorem getD_nlz (k : Nat) (c : List AV) (i : Nat) : (c.map (nlz k)).getD i .any = nlz k (c.getD i .any) := by
  simp only [List.getD_eq_getElem?_getD, List.getElem?_map]
  cases c[i]? <;> simp [nlz_any]
theorem Rep.nlz {μ : Nat → Option Loc} {ro : Nat → Prop} {w : World} {o : Bool} : ∀ (k : Nat) {v : AV} {x : Value}, Rep μ ro w o v x → Rep μ ro w o (Av.nlz k v) x
  | 0, _, _, h => h
  | k + 1, v, x, h => by
    unfold Av.nlz
    cases v with
    | nils => cases h; exact .lstn
    | agg c => cases h with | agg hn hr => exact .agg (by simpa using hn) fun i hi => by rw [getD_nlz]; exact Rep.nlz k (hr i (by simpa using hi))
    | tup c => cases h with | tup hn hr => exact .tup (by simpa using hn) fun i hi => by rw [getD_nlz]; exact Rep.nlz k (hr i (by simpa using hi))
    | _ => exact h
theorem Ret.nl (k : Nat) {f : FuncId} {args : List AV} {r r' : AV} {blks : List Blk} (h : Ret P G f args r blks) (e : nlz k r = r') : Ret P G f args r' blks := by
  subst e
  intro ro w vs hlt hr hg
  refine (h ro w vs hlt hr hg).mono ?_
  rintro e w' ⟨μ', ro', h1, h2, h3⟩
  refine ⟨μ', ro', h1, ?_, h3⟩
  cases e with
  | returned x => exact Rep.nlz k h2
  | _ => exact h2
theorem reps_one {μ : Nat → Option Loc} {ro : Nat → Prop} {w : World} {o : Bool} {a : AV} {vs : Array Value} (h : Reps μ ro w o [a] vs.toList) : ∃ x, vs = #[x] ∧ Rep μ ro w o a x := by
  obtain ⟨l⟩ := vs
  obtain ⟨h1, h2⟩ := h
  match l, h1 with
  | [x], _ => exact ⟨x, rfl, h2 0 (by simp)⟩
theorem reps_two {μ : Nat → Option Loc} {ro : Nat → Prop} {w : World} {o : Bool} {a b : AV} {vs : Array Value} (h : Reps μ ro w o [a, b] vs.toList) : ∃ x y, vs = #[x, y] ∧ Rep μ ro w o a x ∧ Rep μ ro w o b y := by
  obtain ⟨l⟩ := vs
  obtain ⟨h1, h2⟩ := h
  match l, h1 with
  | [x, y], _ => exact ⟨x, y, rfl, h2 0 (by simp), h2 1 (by simp)⟩
/-- A table that lies in a variable. -/
theorem tab_of {ro : Nat → Prop} {w : World} {name : String} {k : IntKind} {zs : List Int} {g : Nat} (hn : P.globalNamed name = some g) (hG : G g = .rop (zs.map (AV.int k)) 0) (hg : GlRel G (fun _ => none) ro w) : Go.Lib.TabIs P w name k zs := by
  obtain ⟨h1, h2⟩ := hg g
  obtain ⟨-, cs, e, l, hc, hs⟩ := h2 _ hG
  rw [hG] at h1
  rw [List.length_map] at hs
  have hcells : ∀ i : Nat, i < zs.length → w.cell? ⟨g, i, none⟩ = some (Value.int k (zs.getD i 0)) := by
    generalize hv : (.pointer (some ⟨g, 0, none⟩) : Value) = v at h1
    cases h1 with
    | rop vs hb hc hr =>
      simp only [Value.pointer.injEq, Option.some.injEq, Addr.mk.injEq] at hv
      obtain ⟨rfl, h0, -⟩ := hv
      intro i hi
      have hi' : i < (zs.map (AV.int k)).length := by rw [List.length_map]; exact hi
      have c := hc i hi'
      have r := hr i hi'
      have e0 : (zs.map (AV.int k)).getD i .any = .int k (zs.getD i 0) := by
        simp [List.getD_eq_getElem?_getD, List.getElem?_eq_getElem hi]
      rw [e0] at r
      generalize hx : vs i = x at r c
      cases r
      rw [show (⟨g, i, none⟩ : Addr) = ⟨g, (0 : Nat) + i, none⟩ by rw [Nat.zero_add]]
      first | exact c | (rw [h0] at c; simpa using c) | (simp at h0; subst h0; simpa using c)
  unfold Go.Lib.TabIs World.var?
  rw [hn]
  simp only [Option.bind_some, hc]
  congr 1
  apply Array.ext
  · simp [hs]
  · intro i h3 h4
    have hi : i < zs.length := by omega
    have := hcells i hi
    simp only [World.cell?, hc] at this
    simp at this
    rw [Array.getElem?_eq_getElem h3] at this
    have := Option.some.inj this
    rw [this]
    simp [List.getElem?_eq_getElem hi]
/-- What is said of the variables, from the tables that they hold. -/
theorem gl_tabs {W : World} (h : ∀ g, G g = .any ∨ ∃ name k zs, G g = .rop (zs.map (AV.int k)) 0 ∧ P.globalNamed name = some g ∧ Go.Lib.TabIs P W name k zs) : GlRel G (fun _ => none) (fun b => b < W.heap.size) W := by
  intro g
  rcases h g with h | ⟨name, k, zs, hG, hn, ht⟩
  · rw [h]; exact ⟨.any, fun _ h => by cases h⟩
  · unfold Go.Lib.TabIs World.var? at ht
    rw [hn] at ht
    simp only [Option.bind_some] at ht
    have key : ∃ cs e l, W.heap[g]? = some (.cells cs e l) ∧ cs = (zs.map fun z => Value.int k z).toArray := by
      split at ht
      · rename_i cs e l hc
        exact ⟨cs, e, l, hc, Option.some.inj ht⟩
      · cases ht
    obtain ⟨cs, e, l, hc, rfl⟩ := key
    have hlt : g < W.heap.size := (Array.getElem?_eq_some_iff.1 hc).1
    rw [hG]
    refine ⟨?_, fun c hc' => ?_⟩
    · refine Rep.rop (p := 0) (fun i => Value.int k (zs.getD i 0)) hlt (fun i hi => ?_) (fun i hi => ?_)
      · rw [List.length_map] at hi
        simp [World.cell?, hc, List.getElem?_eq_getElem hi]
      · rw [List.length_map] at hi
        rw [show (zs.map (AV.int k)).getD i .any = .int k (zs.getD i 0) by simp [List.getD_eq_getElem?_getD, List.getElem?_eq_getElem hi]]
        exact .int
    · injection hc' with h1 _
      subst h1
      exact ⟨hlt, _, e, l, hc, by simp⟩
end Go.Proofs.YtalobodhbbkgdabDoor.Av
