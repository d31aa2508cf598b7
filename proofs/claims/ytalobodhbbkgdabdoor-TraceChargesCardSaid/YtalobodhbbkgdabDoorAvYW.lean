/- What is read of plain data, within the form's own reach. -/
import Derived.Test.YtalobodhbbkgdabDoorAvZ
import Derived.SizedLaws
set_option linter.unusedVariables false
set_option linter.unusedSimpArgs false
namespace Go.Proofs.YtalobodhbbkgdabDoor.Av
open Go.RowKit Go.ChangeShapes Go.WideShapes Go.ChangeAt
variable {P : Program} {W : World} {H : Type} {enc : TypeId × Value → H} {sp : Nat → Bool} {held : Bool}
theorem weights_mem_all {e : TypeId} {n : Nat} {d : DataW H} : ∀ {l : List (DataW H)}, d ∈ l → n ∈ d.weights P e → n ∈ DataW.weightsAll P e l
  | x :: l, h, hn => by
    simp only [DataW.weightsAll, List.mem_append]
    rcases List.mem_cons.1 h with rfl | h
    · exact .inl hn
    · exact .inr (weights_mem_all h hn)
/-- of an argument's reading -/
theorem reach_of {ts : List TypeId} {ds : List (DataW H)} (h : (DataW.weightsEach P ts ds).all (· ≤ reachBytes) = true) (j : Nat) {t : TypeId} {d : DataW H} (ht : ts[j]? = some t) (hd : ds[j]? = some d) : ∀ k ∈ d.weights P t, k ≤ reachBytes := fun k hk => by
  have := List.all_eq_true.1 h k (DataW.weights_mem_each ht hd k hk)
  simpa using this
/-- cells that read as plain data of a type, strings within the reach -/
def HasW (P : Program) : Nat → TypeId → List AV → Prop
  | 0, _, _ => False
  | n + 1, t, c =>
    match P.underlying t with
    | some .bool => ∃ b, c = [.bool b]
    | some (.int k) => ∃ z, c = [.int k z] ∧ InR k z
    | some .string => ∃ s : List UInt8, c = [.str s] ∧ s.length ≤ reachBytes
    | some (.slice e) => ∃ es : List (List AV), c = [.lst es.flatten es.length] ∧ es.length ≤ maxLen ∧ ∀ x ∈ es, HasW P n e x
    | some (.struct fs) => HasFs (HasW P n) fs.toList c
    | _ => False
theorem trod_repW : ∀ (n fuel : Nat) (t : TypeId) (cs : List Value) (x : DataW H × List MemPlace), plainT P n t = true → DataW.trod enc P W 0 sp held fuel t cs = some x → (∀ k ∈ x.1.weights P t, k ≤ reachBytes) →
    ∃ c, HasW P n t c ∧ Reps (fun _ => none) (roW W) W false c cs ∧ cs.length = P.cellsOf t
  | 0, _, _, _, _, hp, _, _ => by cases hp
  | n + 1, fuel, t, cs, x, hp, h, hz => by
    unfold plainT at hp
    split at hp
    · rename_i hu
      obtain ⟨b, rfl, _⟩ := DataW.trod_bool hu h
      exact ⟨[.bool b], by simp [HasW, hu], Reps.cons .bool Reps.nil, (Nat.eq_of_beq_eq_true hp).symm⟩
    · rename_i k hu
      obtain ⟨z, rfl, _, hw⟩ := DataW.trod_int hu h
      refine ⟨[.int k z], ?_, Reps.cons .int Reps.nil, (Nat.eq_of_beq_eq_true hp).symm⟩
      simp only [HasW, hu]
      refine ⟨z, rfl, ?_⟩
      simp only [Lit.wf, Bool.and_eq_true, decide_eq_true_eq] at hw
      exact hw
    · rename_i hu
      obtain ⟨s, rfl, rfl, hs⟩ := DataW.trod_string hu h
      refine ⟨[.str s.data.toList], ?_, Reps.cons (.str rfl) Reps.nil, (Nat.eq_of_beq_eq_true hp).symm⟩
      simp only [HasW, hu]
      exact ⟨_, rfl, hz _ (by simp [DataW.weights])⟩
    · rename_i e hu
      simp only [Bool.and_eq_true] at hp
      have hc1 := (Nat.eq_of_beq_eq_true hp.1).symm
      rcases DataW.trod_slice hu h with ⟨rfl, _⟩ | ⟨a, len, cap, elems, rest, m, _, rfl, hxe, hb, hl, hm, hlen, hel, _, _⟩
      · refine ⟨[.lst [] 0], ?_, Reps.cons .lstn Reps.nil, hc1⟩
        simp only [HasW, hu]
        exact ⟨[], rfl, Nat.zero_le _, fun x hx => by cases hx⟩
      · have each : ∀ i, i < len → ∃ q : List AV × List Value, HasW P n e q.1 ∧ Reps (fun _ => none) (roW W) W false q.1 q.2 ∧ q.2.length = P.cellsOf e ∧ W.cells? 0 (a.add (i * P.cellsOf e)) (P.cellsOf e) = some q.2 := fun i hi => by
          have h1 := hel i hi
          rw [List.getElem?_eq_getElem (by omega), Option.bind_eq_some_iff] at h1
          obtain ⟨vs, h2, h3⟩ := h1
          obtain ⟨c, h4, h5, h6⟩ := trod_repW n m e vs _ hp.2 h3 fun k hk => hz k (by
            rw [hxe]
            simp only [DataW.weights, hu, List.mem_cons, List.mem_append]
            exact .inr (.inl (weights_mem_all (List.mem_map.2 ⟨_, List.getElem_mem (by omega), rfl⟩) hk)))
          exact ⟨(c, vs), h4, h5, h6, h2⟩
        obtain ⟨l, hl1, hl2⟩ := list_of each
        refine ⟨[.lst (l.map (·.1)).flatten len], ?_, ?_, hc1⟩
        · simp only [HasW, hu]
          refine ⟨l.map (·.1), by simp [hl1], by simp [hl1]; omega, fun y hy => ?_⟩
          obtain ⟨q, hq, rfl⟩ := List.mem_map.1 hy
          obtain ⟨i, hi, rfl⟩ := List.getElem_of_mem hq
          exact (hl2 i _ (List.getElem?_eq_getElem hi)).1
        · refine Reps.cons ?_ Reps.nil
          have hz : ∀ y ∈ l.map (·.1), y.length = P.cellsOf e := fun y hy => by
            obtain ⟨q, hq, rfl⟩ := List.mem_map.1 hy
            obtain ⟨i, hi, rfl⟩ := List.getElem_of_mem hq
            obtain ⟨_, h2, h3, _⟩ := hl2 i _ (List.getElem?_eq_getElem hi)
            rw [← h2.1]; exact h3
          have hfl := flatten_len hz
          by_cases hne : (l.map (·.1)).flatten = []
          · rw [hne]
            exact .lst (fun _ => undef) (fun h => absurd rfl h) (fun i hi => by simp at hi) (fun i hi => by simp at hi) hl
          have hz0 : 0 < P.cellsOf e := by
            rcases Nat.eq_zero_or_pos (P.cellsOf e) with h0 | h0
            · rw [h0, Nat.mul_zero] at hfl
              exact absurd (List.length_eq_zero_iff.1 hfl) hne
            · exact h0
          -- the cells
          have cell : ∀ i, i < (l.map (·.1)).flatten.length → ∃ v, W.cell? (a.add i) = some v ∧ Rep (fun _ => none) (roW W) W false ((l.map (·.1)).flatten.getD i .any) v := fun i hi => by
            rw [hfl, List.length_map] at hi
            have hq : i / P.cellsOf e < l.length := Nat.div_lt_of_lt_mul (by rw [Nat.mul_comm]; exact hi)
            have hr := Nat.mod_lt i hz0
            have hi2 : i = i / P.cellsOf e * P.cellsOf e + i % P.cellsOf e := by rw [Nat.mul_comm]; exact (Nat.div_add_mod i _).symm
            obtain ⟨_, h2, h3, h4⟩ := hl2 _ _ (List.getElem?_eq_getElem hq)
            obtain ⟨_, _, h6⟩ := World.cells?_some h4
            have h7 := h6 (i % P.cellsOf e) hr
            refine ⟨(l[i / P.cellsOf e].2).getD (i % P.cellsOf e) undef, ?_, ?_⟩
            · rw [getD_list _ _ undef (by omega)] at h7
              rw [← h7]
              rw [add_add, ← hi2]
            · have h8 := h2.2 (i % P.cellsOf e) (by rw [← h2.1]; omega)
              have e1 : (l.map (·.1)).flatten.getD i .any = (l[i / P.cellsOf e].1).getD (i % P.cellsOf e) .any := by
                rw [List.getD_eq_getElem?_getD]
                conv => lhs; rw [hi2]
                rw [flatten_get hz hr, List.getElem?_map, List.getElem?_eq_getElem hq]
                simp [List.getD]
              rw [e1]
              exact h8
          have hsp : a.spot = none ∧ a.block < W.heap.size := by
            obtain ⟨v, h1, _⟩ := cell 0 (List.length_pos_iff.2 hne)
            obtain ⟨b, o, s⟩ := a
            cases s with
            | some s =>
              have hnone : W.cell? ((⟨b, o, some s⟩ : Addr).add 0) = none := by unfold World.cell?; split <;> simp [Addr.add]
              rw [hnone] at h1; cases h1
            | none =>
              refine ⟨rfl, ?_⟩
              cases hh : W.heap[b]? with
              | none => simp [Addr.add, World.cell?, hh] at h1
              | some x => exact (Array.getElem?_eq_some_iff.1 hh).1
          obtain ⟨b, o, s⟩ := a
          obtain ⟨rfl, hbl⟩ := hsp
          refine .lst (fun i => ((W.cell? ⟨b, o + i, none⟩).getD undef)) (fun _ => ⟨hbl, rfl⟩) (fun i hi => ?_) (fun i hi => ?_) hl
          · obtain ⟨v, h1, _⟩ := cell i hi
            rw [addr_add] at h1
            simp [h1]
          · obtain ⟨v, h1, h2⟩ := cell i hi
            rw [addr_add] at h1
            simp only [h1, Option.getD_some]
            exact h2
    · rename_i fs hu
      simp only [Bool.and_eq_true] at hp
      obtain ⟨xs, m, _, hxe, hl, hxl, hf⟩ := DataW.trod_struct hu h
      have main : ∀ (gs : List Field) (o : Nat), (∀ (i : Nat) f, gs[i]? = some f → ∃ y, DataW.trod enc P W 0 sp held m f.type ((cs.drop f.offset).take (P.cellsOf f.type)) = some y ∧ ∀ k ∈ y.1.weights P f.type, k ≤ reachBytes) → gs.all (fun f => plainT P n f.type) = true → layB P gs o (P.cellsOf t) = true →
          ∃ c, HasFs (HasW P n) gs c ∧ Reps (fun _ => none) (roW W) W false c (cs.drop o) := fun gs => by
        induction gs with
        | nil =>
          intro o _ _ hlay
          have := Nat.eq_of_beq_eq_true hlay
          refine ⟨[], rfl, ?_⟩
          rw [List.drop_eq_nil_of_le (by omega)]
          exact Reps.nil
        | cons f gs ih =>
          intro o hg hall hlay
          simp only [List.all_cons, Bool.and_eq_true] at hall
          simp only [layB, Bool.and_eq_true] at hlay
          have ho := Nat.eq_of_beq_eq_true hlay.1
          obtain ⟨y, hy, hyz⟩ := hg 0 f rfl
          obtain ⟨c1, h1, h2, h3⟩ := trod_repW n m f.type _ y hall.1 hy hyz
          obtain ⟨c2, h4, h5⟩ := ih (o + P.cellsOf f.type) (fun i f' hf' => hg (i + 1) f' (by simpa using hf')) hall.2 hlay.2
          refine ⟨c1 ++ c2, ⟨c1, c2, rfl, h1, h4⟩, ?_⟩
          rw [ho] at h2
          have := h2.app h5
          rwa [← List.drop_drop, List.take_append_drop] at this
      obtain ⟨c, h1, h2⟩ := main fs.toList 0 (fun i f hi => by
        have hi' : fs[i]? = some f := by simpa using hi
        have hlt : i < fs.size := (Array.getElem?_eq_some_iff.1 hi').1
        exact ⟨xs[i], by rw [hf i f hi', List.getElem?_eq_getElem (by omega)], fun k hk => hz k (by
          rw [hxe]
          simp only [DataW.weights, hu]
          exact DataW.weights_mem_each (j := i) (t := f.type) (d := xs[i].1) (by simp [hi]) (by simp [List.getElem?_eq_getElem (show i < xs.length by omega)]) k hk)⟩) hp.1 hp.2
      refine ⟨c, ?_, by simpa using h2, hl⟩
      simp only [HasW, hu]
      exact h1
    · cases hp
/-- whatever reads as a type is made of typed values -/
def ReadsW (P : Program) (n : Nat) (t : TypeId) {X : Type} (f : X → List AV) (wf : X → Prop) : Prop := ∀ c, HasW P n t c → ∃ x : X, c = f x ∧ wf x
def swfW (s : List UInt8) : Prop := s.length ≤ reachBytes

theorem readsW_int {n : Nat} {t : TypeId} {k : IntKind} (hu : P.underlying t = some (.int k)) : ReadsW P (n + 1) t (fun z : Int => [.int k z]) (InR k) := fun c h => by
  simp only [HasW, hu] at h
  obtain ⟨z, h1, h2⟩ := h
  exact ⟨z, h1, h2⟩
theorem readsW_bool {n : Nat} {t : TypeId} (hu : P.underlying t = some .bool) : ReadsW P (n + 1) t (fun b : Bool => [.bool b]) (fun _ => True) := fun c h => by
  simp only [HasW, hu] at h
  obtain ⟨z, h1⟩ := h
  exact ⟨z, h1, trivial⟩
theorem hasW_struct {n : Nat} {t : TypeId} {fs : Array Field} {c : List AV} (hu : P.underlying t = some (.struct fs)) (h : HasW P (n + 1) t c) : HasFs (HasW P n) fs.toList c := by
  simp only [HasW, hu] at h
  exact h
theorem readsW_str {n : Nat} {t : TypeId} (hu : P.underlying t = some .string) : ReadsW P (n + 1) t (fun s : List UInt8 => [.str s]) swfW := fun c h => by
  simp only [HasW, hu] at h
  obtain ⟨z, h1, h2⟩ := h
  exact ⟨z, h1, h2⟩
theorem readsW_list {n : Nat} {t e : TypeId} {X : Type} {f : X → List AV} {wf : X → Prop} (hu : P.underlying t = some (.slice e)) (he : ReadsW P n e f wf) : ReadsW P (n + 1) t (lstf f) (lwf wf) := fun c h => by
  simp only [HasW, hu] at h
  obtain ⟨es, rfl, h1, h2⟩ := h
  have : ∃ l : List X, es = l.map f ∧ ∀ x ∈ l, wf x := by
    clear h1
    induction es with
    | nil => exact ⟨[], rfl, fun x hx => by cases hx⟩
    | cons c es ih =>
      obtain ⟨l, rfl, h3⟩ := ih fun x hx => h2 x (List.mem_cons_of_mem _ hx)
      obtain ⟨x, rfl, h4⟩ := he c (h2 c (List.mem_cons_self ..))
      exact ⟨x :: l, rfl, fun y hy => by rcases List.mem_cons.1 hy with rfl | hy; exact h4; exact h3 y hy⟩
  obtain ⟨l, rfl, h3⟩ := this
  refine ⟨l, ?_, by simpa using h1, h3⟩
  simp [lstf, fl, List.flatMap]
/-- an argument that is one cell -/
theorem argW_one {n : Nat} {t : TypeId} {v : Value} {d : DataW H} {ps : List MemPlace} {X : Type} {f : X → AV} {g : X → List AV} {wf : X → Prop} (hr : ReadsW P n t g wf) (hf : ∀ x, g x = [f x]) (hp : plainT P n t = true) (hv : ∀ cs, v ≠ .agg cs)
    (h : DataW.Trod enc P W 0 sp held t v d ps) (hz : ∀ k ∈ d.weights P t, k ≤ reachBytes) : ∃ x, Rep (fun _ => none) (fun b => b < W.heap.size) W false (f x) v ∧ wf x := by
  obtain ⟨fuel, h⟩ := h
  have hc : v.cells.toList = [v] := by
    cases v <;> first | rfl | exact absurd rfl (hv _)
  rw [hc] at h
  obtain ⟨c, h1, h2, _⟩ := trod_repW n fuel t _ _ hp h hz
  obtain ⟨x, rfl, hw⟩ := hr c h1
  rw [hf] at h2
  obtain ⟨y, ys, h3, h4, _⟩ := h2.head
  simp only [List.cons.injEq] at h3
  exact ⟨x, h3.1 ▸ h4, hw⟩
/-- an argument of many cells -/
theorem argW_agg {n : Nat} {t : TypeId} {v : Value} {d : DataW H} {ps : List MemPlace} {X : Type} {f : X → List AV} {wf : X → Prop} (hr : ReadsW P n t f wf) (hp : plainT P n t = true) (hv : ∃ cs, v = .agg cs)
    (h : DataW.Trod enc P W 0 sp held t v d ps) (hz : ∀ k ∈ d.weights P t, k ≤ reachBytes) : ∃ x, Rep (fun _ => none) (fun b => b < W.heap.size) W false (.agg (f x)) v ∧ wf x := by
  obtain ⟨fuel, h⟩ := h
  obtain ⟨cs, rfl⟩ := hv
  obtain ⟨c, h1, h2, _⟩ := trod_repW n fuel t _ _ hp h hz
  obtain ⟨x, rfl, hw⟩ := hr c h1
  refine ⟨x, ?_, hw⟩
  have := h2.agg
  simpa [Value.cells] using this
end Go.Proofs.YtalobodhbbkgdabDoor.Av
