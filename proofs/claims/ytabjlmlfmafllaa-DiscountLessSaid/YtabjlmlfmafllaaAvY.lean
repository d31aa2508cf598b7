/- Data that come in: what is read of plain data describes the values. -/
import Derived.Test.YtabjlmlfmafllaaAvX
import Derived.ChangeArms
import Derived.ChangeShapes
import Derived.DataReads
set_option linter.unusedVariables false
set_option linter.unusedSimpArgs false
namespace Go.Proofs.Ytabjlmlfmafllaa.Av
open Go.RowKit

variable {P : Program} {W : World} {H : Type} {enc : TypeId × Value → H} {sp : Nat → Bool} {held : Bool}

def HasFs (h : TypeId → List AV → Prop) : List Field → List AV → Prop
  | [], c => c = []
  | f :: fs, c => ∃ a b, c = a ++ b ∧ h f.type a ∧ HasFs h fs b
/-- cells that read as plain data of a type -/
def HasT (P : Program) : Nat → TypeId → List AV → Prop
  | 0, _, _ => False
  | n + 1, t, c =>
    match P.underlying t with
    | some .bool => ∃ b, c = [.bool b]
    | some (.int k) => ∃ z, c = [.int k z] ∧ InR k z
    | some .string => ∃ s : List UInt8, c = [.str s] ∧ s.length ≤ maxLen
    | some (.slice e) => ∃ es : List (List AV), c = [.lst es.flatten es.length] ∧ es.length ≤ maxLen ∧ ∀ x ∈ es, HasT P n e x
    | some (.struct fs) => HasFs (HasT P n) fs.toList c
    | _ => False
/-- the fields lie one behind the other -/
def layB (P : Program) : List Field → Nat → Nat → Bool
  | [], o, m => Nat.beq o m
  | f :: fs, o, m => Nat.beq f.offset o && layB P fs (o + P.cellsOf f.type) m
def plainT (P : Program) : Nat → TypeId → Bool
  | 0, _ => false
  | n + 1, t =>
    match P.underlying t with
    | some .bool => Nat.beq (P.cellsOf t) 1
    | some (.int _) => Nat.beq (P.cellsOf t) 1
    | some .string => Nat.beq (P.cellsOf t) 1
    | some (.slice e) => Nat.beq (P.cellsOf t) 1 && plainT P n e
    | some (.struct fs) => fs.toList.all (fun f => plainT P n f.type) && layB P fs.toList 0 (P.cellsOf t)
    | _ => false

theorem flatten_get {α : Type} {z : Nat} : ∀ {es : List (List α)} {q r : Nat}, (∀ x ∈ es, x.length = z) → r < z → es.flatten[q * z + r]? = (es[q]?).bind (·[r]?)
  | [], q, r, _, _ => by simp
  | x :: es, 0, r, h, hr => by
    have hx := h x (List.mem_cons_self ..)
    simp [List.getElem?_append_left (show r < x.length by omega)]
  | x :: es, q + 1, r, h, hr => by
    have hx := h x (List.mem_cons_self ..)
    rw [List.flatten_cons, List.getElem?_append_right (by rw [Nat.add_mul]; omega), show (q + 1) * z + r - x.length = q * z + r by rw [hx, Nat.add_mul]; omega,
      flatten_get (fun y hy => h y (List.mem_cons_of_mem _ hy)) hr]
    simp
theorem flatten_len {α : Type} {z : Nat} : ∀ {es : List (List α)}, (∀ x ∈ es, x.length = z) → es.flatten.length = es.length * z
  | [], _ => by simp
  | x :: es, h => by
    rw [List.flatten_cons, List.length_append, flatten_len (fun y hy => h y (List.mem_cons_of_mem _ hy)), h x (List.mem_cons_self ..), List.length_cons, Nat.add_mul]; omega

abbrev roW (W : World) : Nat → Prop := fun b => b < W.heap.size

/-- a list of what is there for each -/
theorem list_of {α : Type} {n : Nat} {p : Nat → α → Prop} (h : ∀ i, i < n → ∃ x, p i x) : ∃ l : List α, l.length = n ∧ ∀ i x, l[i]? = some x → p i x := by
  induction n with
  | zero => exact ⟨[], rfl, fun i x h => by simp at h⟩
  | succ n ih =>
    obtain ⟨l, h1, h2⟩ := ih fun i hi => h i (by omega)
    obtain ⟨x, hx⟩ := h n (by omega)
    refine ⟨l ++ [x], by simp [h1], fun i y hy => ?_⟩
    by_cases hi : i < l.length
    · rw [List.getElem?_append_left hi] at hy; exact h2 i y hy
    · rw [List.getElem?_append_right (by omega)] at hy
      have : i = n := by
        have := (List.getElem?_eq_some_iff.1 hy).1
        simp at this; omega
      subst this
      rw [h1] at hy
      simp at hy
      exact hy ▸ hx

theorem add_add (a : Addr) (n m : Nat) : (a.add n).add m = a.add (n + m) := by
  obtain ⟨b, o, s⟩ := a
  unfold Addr.add
  by_cases hn : n = 0 <;> by_cases hm : m = 0 <;> simp [hn, hm, Nat.add_assoc]

theorem trod_rep : ∀ (n fuel : Nat) (t : TypeId) (cs : List Value) (x : DataW H × List MemPlace), plainT P n t = true → DataW.trod enc P W 0 sp held fuel t cs = some x →
    ∃ c, HasT P n t c ∧ Reps (fun _ => none) (roW W) W false c cs ∧ cs.length = P.cellsOf t
  | 0, _, _, _, _, hp, _ => by cases hp
  | n + 1, fuel, t, cs, x, hp, h => by
    unfold plainT at hp
    split at hp
    · rename_i hu
      obtain ⟨b, rfl, _⟩ := DataW.trod_bool hu h
      exact ⟨[.bool b], by simp [HasT, hu], Reps.cons .bool Reps.nil, (Nat.eq_of_beq_eq_true hp).symm⟩
    · rename_i k hu
      obtain ⟨z, rfl, _, hw⟩ := DataW.trod_int hu h
      refine ⟨[.int k z], ?_, Reps.cons .int Reps.nil, (Nat.eq_of_beq_eq_true hp).symm⟩
      simp only [HasT, hu]
      refine ⟨z, rfl, ?_⟩
      simp only [Lit.wf, Bool.and_eq_true, decide_eq_true_eq] at hw
      exact hw
    · rename_i hu
      obtain ⟨s, rfl, _, hs⟩ := DataW.trod_string hu h
      refine ⟨[.str s.data.toList], ?_, Reps.cons (.str rfl) Reps.nil, (Nat.eq_of_beq_eq_true hp).symm⟩
      simp only [HasT, hu]
      exact ⟨_, rfl, by rw [bytes_len]; exact hs⟩
    · rename_i e hu
      simp only [Bool.and_eq_true] at hp
      have hc1 := (Nat.eq_of_beq_eq_true hp.1).symm
      rcases DataW.trod_slice hu h with ⟨rfl, _⟩ | ⟨a, len, cap, elems, rest, m, _, rfl, _, hb, hl, hm, hlen, hel, _, _⟩
      · refine ⟨[.lst [] 0], ?_, Reps.cons .lstn Reps.nil, hc1⟩
        simp only [HasT, hu]
        exact ⟨[], rfl, Nat.zero_le _, fun x hx => by cases hx⟩
      · have each : ∀ i, i < len → ∃ q : List AV × List Value, HasT P n e q.1 ∧ Reps (fun _ => none) (roW W) W false q.1 q.2 ∧ q.2.length = P.cellsOf e ∧ W.cells? 0 (a.add (i * P.cellsOf e)) (P.cellsOf e) = some q.2 := fun i hi => by
          have h1 := hel i hi
          rw [List.getElem?_eq_getElem (by omega), Option.bind_eq_some_iff] at h1
          obtain ⟨vs, h2, h3⟩ := h1
          obtain ⟨c, h4, h5, h6⟩ := trod_rep n m e vs _ hp.2 h3
          exact ⟨(c, vs), h4, h5, h6, h2⟩
        obtain ⟨l, hl1, hl2⟩ := list_of each
        refine ⟨[.lst (l.map (·.1)).flatten len], ?_, ?_, hc1⟩
        · simp only [HasT, hu]
          refine ⟨l.map (·.1), by simp [hl1], by simp [hl1]; omega, fun y hy => ?_⟩
          obtain ⟨q, hq, rfl⟩ := List.mem_map.1 hy
          obtain ⟨i, hi, rfl⟩ := List.getElem_of_mem hq
          exact (hl2 i _ (List.getElem?_eq_getElem hi)).1
        · refine Reps.cons ?_ Reps.nil
          have hz : ∀ y ∈ l.map (·.1), y.length = P.cellsOf e := fun y hy => by
            obtain ⟨q, hq, rfl⟩ := List.mem_map.1 hy
            obtain ⟨i, hi, rfl⟩ := List.getElem_of_mem hq
            obtain ⟨_, h2, h3, _⟩ := hl2 i _ (List.getElem?_eq_getElem hi)
            rw [← h2.1]; exact h3
          have hfl := flatten_len hz
          by_cases hne : (l.map (·.1)).flatten = []
          · rw [hne]
            exact .lst (fun _ => undef) (fun h => absurd rfl h) (fun i hi => by simp at hi) (fun i hi => by simp at hi) hl
          have hz0 : 0 < P.cellsOf e := by
            rcases Nat.eq_zero_or_pos (P.cellsOf e) with h0 | h0
            · rw [h0, Nat.mul_zero] at hfl
              exact absurd (List.length_eq_zero_iff.1 hfl) hne
            · exact h0
          -- the cells
          have cell : ∀ i, i < (l.map (·.1)).flatten.length → ∃ v, W.cell? (a.add i) = some v ∧ Rep (fun _ => none) (roW W) W false ((l.map (·.1)).flatten.getD i .any) v := fun i hi => by
            rw [hfl, List.length_map] at hi
            have hq : i / P.cellsOf e < l.length := Nat.div_lt_of_lt_mul (by rw [Nat.mul_comm]; exact hi)
            have hr := Nat.mod_lt i hz0
            have hi2 : i = i / P.cellsOf e * P.cellsOf e + i % P.cellsOf e := by rw [Nat.mul_comm]; exact (Nat.div_add_mod i _).symm
            obtain ⟨_, h2, h3, h4⟩ := hl2 _ _ (List.getElem?_eq_getElem hq)
            obtain ⟨_, _, h6⟩ := World.cells?_some h4
            have h7 := h6 (i % P.cellsOf e) hr
            refine ⟨(l[i / P.cellsOf e].2).getD (i % P.cellsOf e) undef, ?_, ?_⟩
            · rw [getD_list _ _ undef (by omega)] at h7
              rw [← h7]
              rw [add_add, ← hi2]
            · have h8 := h2.2 (i % P.cellsOf e) (by rw [← h2.1]; omega)
              have e1 : (l.map (·.1)).flatten.getD i .any = (l[i / P.cellsOf e].1).getD (i % P.cellsOf e) .any := by
                rw [List.getD_eq_getElem?_getD]
                conv => lhs; rw [hi2]
                rw [flatten_get hz hr, List.getElem?_map, List.getElem?_eq_getElem hq]
                simp [List.getD]
              rw [e1]
              exact h8
          have hsp : a.spot = none ∧ a.block < W.heap.size := by
            obtain ⟨v, h1, _⟩ := cell 0 (List.length_pos_iff.2 hne)
            obtain ⟨b, o, s⟩ := a
            cases s with
            | some s =>
              have hnone : W.cell? ((⟨b, o, some s⟩ : Addr).add 0) = none := by unfold World.cell?; split <;> simp [Addr.add]
              rw [hnone] at h1; cases h1
            | none =>
              refine ⟨rfl, ?_⟩
              cases hh : W.heap[b]? with
              | none => simp [Addr.add, World.cell?, hh] at h1
              | some x => exact (Array.getElem?_eq_some_iff.1 hh).1
          obtain ⟨b, o, s⟩ := a
          obtain ⟨rfl, hbl⟩ := hsp
          refine .lst (fun i => ((W.cell? ⟨b, o + i, none⟩).getD undef)) (fun _ => ⟨hbl, rfl⟩) (fun i hi => ?_) (fun i hi => ?_) hl
          · obtain ⟨v, h1, _⟩ := cell i hi
            rw [addr_add] at h1
            simp [h1]
          · obtain ⟨v, h1, h2⟩ := cell i hi
            rw [addr_add] at h1
            simp only [h1, Option.getD_some]
            exact h2
    · rename_i fs hu
      simp only [Bool.and_eq_true] at hp
      obtain ⟨xs, m, _, _, hl, hxl, hf⟩ := DataW.trod_struct hu h
      have main : ∀ (gs : List Field) (o : Nat), (∀ (i : Nat) f, gs[i]? = some f → ∃ y, DataW.trod enc P W 0 sp held m f.type ((cs.drop f.offset).take (P.cellsOf f.type)) = some y) → gs.all (fun f => plainT P n f.type) = true → layB P gs o (P.cellsOf t) = true →
          ∃ c, HasFs (HasT P n) gs c ∧ Reps (fun _ => none) (roW W) W false c (cs.drop o) := fun gs => by
        induction gs with
        | nil =>
          intro o _ _ hlay
          have := Nat.eq_of_beq_eq_true hlay
          refine ⟨[], rfl, ?_⟩
          rw [List.drop_eq_nil_of_le (by omega)]
          exact Reps.nil
        | cons f gs ih =>
          intro o hg hall hlay
          simp only [List.all_cons, Bool.and_eq_true] at hall
          simp only [layB, Bool.and_eq_true] at hlay
          have ho := Nat.eq_of_beq_eq_true hlay.1
          obtain ⟨y, hy⟩ := hg 0 f rfl
          obtain ⟨c1, h1, h2, h3⟩ := trod_rep n m f.type _ y hall.1 hy
          obtain ⟨c2, h4, h5⟩ := ih (o + P.cellsOf f.type) (fun i f' hf' => hg (i + 1) f' (by simpa using hf')) hall.2 hlay.2
          refine ⟨c1 ++ c2, ⟨c1, c2, rfl, h1, h4⟩, ?_⟩
          rw [ho] at h2
          have := h2.app h5
          rwa [← List.drop_drop, List.take_append_drop] at this
      obtain ⟨c, h1, h2⟩ := main fs.toList 0 (fun i f hi => by
        have hi' : fs[i]? = some f := by simpa using hi
        have hlt : i < fs.size := (Array.getElem?_eq_some_iff.1 hi').1
        exact ⟨xs[i], by rw [hf i f hi', List.getElem?_eq_getElem (by omega)]⟩) hp.1 hp.2
      refine ⟨c, ?_, by simpa using h2, hl⟩
      simp only [HasT, hu]
      exact h1
    · cases hp
end Go.Proofs.Ytabjlmlfmafllaa.Av
