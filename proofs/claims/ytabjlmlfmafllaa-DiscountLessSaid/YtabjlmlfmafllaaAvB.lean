/- Reading and writing of blocks; what the operations' helpers run to. -/
import Derived.Test.YtabjlmlfmafllaaAvA
set_option linter.unusedVariables false
set_option linter.unusedSimpArgs false
namespace Go.Proofs.Ytabjlmlfmafllaa.Av
open Go.RowKit

theorem r_underlying {P : Program} {t : TypeId} {d : TypeDesc} (h : P.underlying t = some d) (w : World) : (underlying t).run P w = .ok d w := by
  simp [underlying, h, Result.andThen]
theorem r_typeInfo {P : Program} {t : TypeId} {i : TypeInfo} (h : P.info? t = some i) (w : World) : (typeInfo t).run P w = .ok i w := by
  simp [typeInfo, h, Result.andThen]
theorem r_sizeOf {P : Program} {t : TypeId} {i : TypeInfo} (h : P.info? t = some i) (w : World) : (sizeOf t).run P w = .ok i.size w := by
  simp [sizeOf, r_typeInfo h, Result.andThen]
theorem r_zero {P : Program} {t : TypeId} {i : TypeInfo} {v : Value} (h : P.info? t = some i) (hz : i.zero = some v) (w : World) : (zeroValue t).run P w = .ok v w := by
  simp [zeroValue, r_typeInfo h, hz, Result.andThen]

def szOf (P : Program) (t : TypeId) : Option Nat := (P.info? t).map (·.size)
def isAggD : TypeDesc → Bool
  | .struct _ | .array _ _ => true
  | _ => false
theorem r_isAgg {P : Program} {t : TypeId} {d : TypeDesc} (h : P.underlying t = some d) (w : World) : (isAgg t).run P w = .ok (isAggD d) w := by
  cases d <;> simp [isAgg, r_underlying h, Result.andThen, isAggD]

theorem addr_add (b off i : Nat) : (⟨b, off, none⟩ : Addr).add i = ⟨b, off + i, none⟩ := by
  unfold Addr.add
  split
  · subst_vars; rfl
  · rfl

theorem getD_list {α : Type} (l : List α) (i : Nat) (d : α) (h : i < l.length) : l[i]? = some (l.getD i d) := by
  simp [List.getD, List.getElem?_eq_getElem h]
theorem getD_arr {α : Type} (l : Array α) (i : Nat) (d : α) (h : i < l.size) : l[i]? = some (l.getD i d) := by
  simp [Array.getElem?_eq_getElem h, Array.getD, h]
theorem arr_getD_toList {α : Type} (l : Array α) (i : Nat) (d : α) : l.toList.getD i d = l.getD i d := by
  simp [List.getD, Array.getD]
  split <;> simp_all

/-- a write to one block -/
structure Wrote (w w' : World) (b : Nat) (e : TypeId) (fr : Nat × Nat) (cs' : Array Value) : Prop where
  at_ : w'.heap[b]? = some (.cells cs' e fr)
  other : ∀ j, j ≠ b → w'.heap[j]? = w.heap[j]?
  size : w'.heap.size = w.heap.size
  os : w'.os = w.os
  tape : w'.tape = w.tape
  output : w'.output = w.output

theorem setCell_wrote {w : World} {b off : Nat} {e : TypeId} {fr : Nat × Nat} {cs : Array Value} (h : w.heap[b]? = some (.cells cs e fr)) (v : Value) :
    Wrote w (w.setCell ⟨b, off, none⟩ v) b e fr (cs.setIfInBounds off v) := by
  refine ⟨?_, fun j hj => Below.heap_setCell _ _ _ _ hj, by simp, rfl, rfl, rfl⟩
  simp only [World.setCell, Array.getElem?_modify, if_true, h, Option.map_some]
  rfl

theorem cell_of {w : World} {b off : Nat} {e : TypeId} {fr : Nat × Nat} {cs : Array Value} (h : w.heap[b]? = some (.cells cs e fr)) (ho : off < cs.size) :
    w.cell? ⟨b, off, none⟩ = some (cs.getD off undef) := by
  simp only [World.cell?, h]
  exact getD_arr cs off undef ho
theorem frozen_of {w : World} {b off : Nat} {e : TypeId} {fr : Nat × Nat} {cs : Array Value} (h : w.heap[b]? = some (.cells cs e fr)) (ho : ¬ (fr.1 ≤ off ∧ off < fr.2)) :
    w.frozen? ⟨b, off, none⟩ = false := by
  obtain ⟨lo, hi⟩ := fr
  simp only [World.frozen?, h]
  simp only [Bool.and_eq_false_iff, decide_eq_false_iff_not]
  by_cases hl : lo ≤ off
  · exact Or.inr fun hh => ho ⟨hl, hh⟩
  · exact Or.inl hl

def writeAt (cs : Array Value) (off : Nat) : List Value → Array Value
  | [] => cs
  | v :: vs => writeAt (cs.setIfInBounds off v) (off + 1) vs
theorem writeAt_size : ∀ (vs : List Value) (cs : Array Value) (off : Nat), (writeAt cs off vs).size = cs.size
  | [], _, _ => rfl
  | v :: vs, cs, off => by simp [writeAt, writeAt_size vs]
theorem writeAt_getD : ∀ (vs : List Value) (cs : Array Value) (off j : Nat), off + vs.length ≤ cs.size →
    (writeAt cs off vs).getD j undef = if off ≤ j ∧ j < off + vs.length then vs.getD (j - off) undef else cs.getD j undef
  | [], cs, off, j, h => by simp [writeAt]; intro a b; omega
  | v :: vs, cs, off, j, h => by
    simp only [List.length_cons] at h
    rw [writeAt, writeAt_getD vs _ _ _ (by simp; omega)]
    by_cases h1 : off + 1 ≤ j ∧ j < off + 1 + vs.length
    · rw [if_pos h1, if_pos (by simp; omega), show j - off = (j - (off + 1)) + 1 by omega]
      simp [List.getD]
    · rw [if_neg h1]
      by_cases h2 : j = off
      · subst h2
        rw [if_pos (by simp), Nat.sub_self]
        have : j < cs.size := by omega
        simp [Array.getD, this]
      · rw [if_neg (by simp; omega)]
        simp only [Array.getD, Array.size_setIfInBounds]
        split
        · exact Array.getElem_setIfInBounds_ne (by assumption) (fun e => h2 e.symm)
        · rfl

theorem r_storeCells {P : Program} : ∀ (vs : List Value) (i : Nat) (w : World) (b off : Nat) (e : TypeId) (fr : Nat × Nat) (cs : Array Value),
    w.heap[b]? = some (.cells cs e fr) → off + i + vs.length ≤ cs.size → (∀ j, off + i ≤ j → j < off + i + vs.length → ¬ (fr.1 ≤ j ∧ j < fr.2)) →
    (∀ v ∈ vs, v.oneCell' = true) →
    ∃ w', (storeCells ⟨b, off, none⟩ vs i).run P w = .ok () w' ∧ Wrote w w' b e fr (writeAt cs (off + i) vs)
  | [], i, w, b, off, e, fr, cs, h, _, _, _ => ⟨w, rfl, ⟨h, fun _ _ => rfl, rfl, rfl, rfl, rfl⟩⟩
  | v :: vs, i, w, b, off, e, fr, cs, h, hlen, hfr, hone => by
    simp only [List.length_cons] at hlen hfr
    have h0 := cell_of h (off := off + i) (by omega)
    have h1 := frozen_of h (off := off + i) (hfr (off + i) (by omega) (by omega))
    have hw := setCell_wrote (off := off + i) h v
    obtain ⟨w', hr, hw'⟩ := r_storeCells (P := P) vs (i + 1) (w.setCell ⟨b, off + i, none⟩ v) b off e fr (cs.setIfInBounds (off + i) v) hw.at_ (by simp; omega)
      (fun j h1 h2 => hfr j (by omega) (by omega)) (fun x hx => hone x (List.mem_cons_of_mem _ hx))
    refine ⟨w', ?_, ⟨?_, fun j hj => (hw'.other j hj).trans (hw.other j hj), hw'.size.trans hw.size, hw'.os.trans hw.os, hw'.tape.trans hw.tape, hw'.output.trans hw.output⟩⟩
    · simp only [storeCells, Sem.run_bind, addr_add, run_store P w _ v _ (hone v (List.mem_cons_self ..)), h0, h1, Result.andThen_ok]
      simpa using hr
    · rw [writeAt, show off + i + 1 = off + (i + 1) by omega]
      exact hw'.at_

/-- so many cells from an offset on -/
def sub (c : List AV) (o n : Nat) : List AV := (c.drop o).take n
theorem sub_getD {c : List AV} {o n i : Nat} (hi : i < (sub c o n).length) : (sub c o n).getD i .any = c.getD (o + i) .any ∧ o + i < c.length ∧ i < n := by
  simp only [sub, List.length_take, List.length_drop] at hi
  refine ⟨?_, by omega, by omega⟩
  simp [sub, List.getD, List.getElem?_take, show i < n by omega, List.getElem?_drop]
theorem sub_length {c : List AV} {o n : Nat} (h : o + n ≤ c.length) : (sub c o n).length = n := by simp [sub]; omega

/-- what a variable is made of -/
def AV.cells : AV → List AV
  | .agg c => c
  | v => [v]
def AV.one : AV → Bool
  | .agg _ | .tup _ | .any => false
  | _ => true

variable {μ μ' : Nat → Option Loc} {ro ro' : Nat → Prop} {w w' : World}

theorem Rep.one {o : Bool} {v : AV} {x : Value} (h : Rep μ ro w o v x) (hv : v.one = true) : x.oneCell' = true := by
  cases h <;> first | rfl | cases hv
theorem Rep.cells {o : Bool} {v : AV} {x : Value} (h : Rep μ ro w o v x) (hv : v ≠ .any) : Reps μ ro w o v.cells x.cells.toList := by
  cases h <;> simp only [AV.cells, Value.cells, Reps]
  case any => exact absurd rfl hv
  case agg c vs hn hr =>
    exact ⟨by simpa using hn, fun i hi => by rw [arr_getD_toList vs]; exact hr i hi⟩
  all_goals refine ⟨rfl, fun i hi => ?_⟩; simp only [List.length_singleton, Nat.lt_one_iff] at hi; subst hi; simp only [List.getD_cons_zero]
  all_goals constructor
  all_goals assumption

theorem Reps.mono {o : Bool} {c : List AV} {vs : List Value} (h : Reps μ ro w o c vs) (hμ : ∀ i b, μ i = some b → μ' i = some b) (hro : ∀ b, ro b → ro' b)
    (hw : ∀ b, ro b → w'.heap[b]? = w.heap[b]?) : Reps μ' ro' w' o c vs := ⟨h.1, fun i hi => (h.2 i hi).mono hμ hro hw⟩
theorem Reps.up {o : Bool} {c : List AV} {vs : List Value} (h : Reps μ ro w false c vs) : Reps μ ro w o c vs := ⟨h.1, fun i hi => (h.2 i hi).any_o⟩
theorem Reps.nil {o : Bool} : Reps μ ro w o [] [] := ⟨rfl, fun i hi => by simp at hi⟩
theorem Reps.cons {o : Bool} {v : AV} {c : List AV} {x : Value} {vs : List Value} (h : Rep μ ro w o v x) (hs : Reps μ ro w o c vs) : Reps μ ro w o (v :: c) (x :: vs) := by
  refine ⟨by simp [hs.1], fun i hi => ?_⟩
  cases i with
  | zero => simpa using h
  | succ i => simpa using hs.2 i (by simpa using hi)
theorem Reps.head {o : Bool} {v : AV} {c : List AV} {vs : List Value} (h : Reps μ ro w o (v :: c) vs) : ∃ x xs, vs = x :: xs ∧ Rep μ ro w o v x ∧ Reps μ ro w o c xs := by
  cases vs with
  | nil => have := h.1; simp at this
  | cons x xs =>
    exact ⟨x, xs, rfl, by simpa using h.2 0 (by simp), ⟨by simpa using h.1, fun i hi => by simpa using h.2 (i + 1) (by simpa using hi)⟩⟩
theorem Reps.app {o : Bool} {c d : List AV} {vs xs : List Value} (h : Reps μ ro w o c vs) (k : Reps μ ro w o d xs) : Reps μ ro w o (c ++ d) (vs ++ xs) := by
  refine ⟨by simp [h.1, k.1], fun i hi => ?_⟩
  simp only [List.length_append] at hi
  by_cases hc : i < c.length
  · have := h.2 i hc
    simpa [List.getD, List.getElem?_append_left hc, List.getElem?_append_left (show i < vs.length by rw [h.1]; exact hc)] using this
  · have := k.2 (i - c.length) (by omega)
    simpa [List.getD, List.getElem?_append_right (Nat.le_of_not_lt hc), List.getElem?_append_right (show vs.length ≤ i by rw [h.1]; omega), h.1] using this
theorem Reps.agg {o : Bool} {c : List AV} {vs : List Value} (h : Reps μ ro w o c vs) : Rep μ ro w o (.agg c) (.agg vs.toArray) :=
  .agg (by simpa using h.1) fun i hi => by have := h.2 i hi; rwa [← arr_getD_toList]
theorem Reps.tup {o : Bool} {c : List AV} {vs : List Value} (h : Reps μ ro w o c vs) : Rep μ ro w o (.tup c) (.tuple vs.toArray) :=
  .tup (by simpa using h.1) fun i hi => by have := h.2 i hi; rwa [← arr_getD_toList]
theorem Rep.agg_inv {o : Bool} {c : List AV} {x : Value} (h : Rep μ ro w o (.agg c) x) : ∃ vs : List Value, x = .agg vs.toArray ∧ Reps μ ro w o c vs := by
  cases h with
  | @agg _ _ vs hn hr => exact ⟨vs.toList, by rw [Array.toArray_toList], by simpa using hn, fun i hi => by rw [arr_getD_toList vs]; exact hr i hi⟩
theorem Rep.tup_inv {o : Bool} {c : List AV} {x : Value} (h : Rep μ ro w o (.tup c) x) : ∃ vs : List Value, x = .tuple vs.toArray ∧ Reps μ ro w o c vs := by
  cases h with
  | @tup _ _ vs hn hr => exact ⟨vs.toList, by rw [Array.toArray_toList], by simpa using hn, fun i hi => by rw [arr_getD_toList vs]; exact hr i hi⟩

theorem Reps.sub {o : Bool} {c : List AV} {vs : List Value} (h : Reps μ ro w o c vs) (a n : Nat) : Reps μ ro w o (sub c a n) ((vs.drop a).take n) := by
  refine ⟨by simp [Av.sub, h.1], fun i hi => ?_⟩
  obtain ⟨h1, h2, h3⟩ := sub_getD hi
  rw [h1]
  have := h.2 (a + i) h2
  simpa [List.getD, List.getElem?_take, h3, List.getElem?_drop] using this

/-- loading cells out of a block -/
theorem r_loadCells {P : Program} {b off n : Nat} {f : Nat → Value} (h : ∀ j, j < n → w.cell? ⟨b, off + j, none⟩ = some (f j)) :
    (loadCells ⟨b, off, none⟩ n).run P w = .ok ((List.range n).map f).toArray w :=
  run_loadCells w _ n f fun j hj => by rw [addr_add]; exact h j hj

theorem r_loadVar {P : Program} {t : TypeId} {d : TypeDesc} {i : TypeInfo} (hu : P.underlying t = some d) (hi : P.info? t = some i) {b off : Nat} {f : Nat → Value}
    (h : ∀ j, j < (if isAggD d then i.size else 1) → w.cell? ⟨b, off + j, none⟩ = some (f j)) :
    (loadVar t ⟨b, off, none⟩).run P w = .ok (if isAggD d then .agg ((List.range i.size).map f).toArray else f 0) w := by
  simp only [loadVar, Sem.run_bind, r_isAgg hu, Result.andThen_ok]
  by_cases ha : isAggD d = true
  · simp only [ha, if_true] at h ⊢
    simp [r_sizeOf hi, r_loadCells h, Result.andThen]
  · simp only [Bool.not_eq_true] at ha
    simp only [ha] at h ⊢
    have := h 0 (by simp)
    simp at this ⊢
    simp [this]

theorem range_reps {o : Bool} {c : List AV} {f : Nat → Value} (h : ∀ i, i < c.length → Rep μ ro w o (c.getD i .any) (f i)) : Reps μ ro w o c ((List.range c.length).map f) := by
  refine ⟨by simp, fun i hi => ?_⟩
  have := h i hi
  simpa [List.getD, hi] using this

end Go.Proofs.Ytabjlmlfmafllaa.Av
