/- Contracts of the kit's library as contracts over abstract values; tables that lie in variables. -/
import Derived.Test.YtnlaiahcemckkaaGreatDoorAvZ
import Derived.Lib.LaidTab
import Derived.Sort.Grow
import Derived.Deep.Draws
import Derived.SizedLaws
import Derived.Test.YtnlaiahcemckkaaGreatDoorAvQ
set_option linter.unusedVariables false
set_option linter.unusedSimpArgs false
namespace Go.Proofs.YtnlaiahcemckkaaGreatDoor.Av
variable {P : Program} {G : Nat → AV}
/-- A call that only lays new blocks and draws, and gives back what needs no memory. -/
theorem Ret.of_calls {f : FuncId} {args : List AV} {r : AV}
    (h : ∀ (ro : Nat → Prop) w (vs : Array Value), (∀ b, ro b → b < w.heap.size) → Reps (fun _ => none) ro w false args vs.toList → GlRel G (fun _ => none) ro w →
      Calls P f vs w fun e w' => (∃ x, e = .returned x ∧ ∀ μ ro' w'', Rep μ ro' w'' true r x) ∧ ∃ k os, w' = Go.Sort.grow (w.drewN k) os) : Ret P G f args r [] := by
  intro ro w vs hlt hr hg
  refine (h ro w vs hlt hr hg).mono ?_
  rintro e w' ⟨⟨x, rfl, hx⟩, k, os, rfl⟩
  have hs : w.heap.size ≤ (Go.Sort.grow (w.drewN k) os).heap.size := by simp [Go.Sort.grow, World.drewN]
  have hold : ∀ b, b < w.heap.size → (Go.Sort.grow (w.drewN k) os).heap[b]? = w.heap[b]? := fun b hb => by
    simp only [Go.Sort.grow, World.drewN]
    rw [Array.getElem?_append_left hb]
  refine ⟨fun _ => none, ro, ⟨fun _ _ => rfl, fun _ h => h, fun _ h => .inl h, ⟨rfl, rfl, rfl, hs, fun b hb => hold b (hlt b hb), fun b hb _ => hold b hb, fun i l h => by cases h⟩⟩, hx _ _ _, ?_⟩
  have he : ∀ (i : Nat) (k : Ob), (hpOf [] ⟨.e, 0⟩).m.get i ≠ some k := fun i k h => by
    have : (hpOf [] ⟨.e, 0⟩).m.get i = none := Tr.get_e i
    rw [this] at h; cases h
  exact ⟨fun i k h => (he i k h).elim, fun i j k l b c h _ _ _ _ => (he i k h).elim, fun i k b h _ => (he i k h).elim, fun i b h => (by cases h), fun b hb => Nat.lt_of_lt_of_le (hlt b hb) hs, fun i _ => rfl⟩
/-- nil slices as lists that are empty -/
def nlz : Nat → AV → AV
  | 0, v => v
  | k + 1, v => match v with | .nils => .lst [] 0 | .agg c => .agg (c.map (nlz k)) | .tup c => .tup (c.map (nlz k)) | v => v
theorem nlz_any (k : Nat) : nlz k .any = .any := by cases k <;> rfl
theorem getD_nlz (k : Nat) (c : List AV) (i : Nat) : (c.map (nlz k)).getD i .any = nlz k (c.getD i .any) := by
  simp only [List.getD_eq_getElem?_getD, List.getElem?_map]
  cases c[i]? <;> simp [nlz_any]
theorem Rep.nlz {μ : Nat → Option Loc} {ro : Nat → Prop} {w : World} {o : Bool} : ∀ (k : Nat) {v : AV} {x : Value}, Rep μ ro w o v x → Rep μ ro w o (Av.nlz k v) x
  | 0, _, _, h => h
  | k + 1, v, x, h => by
    unfold Av.nlz
    cases v with
    | nils => cases h; exact .lstn
    | agg c => cases h with | agg hn hr => exact .agg (by simpa using hn) fun i hi => by rw [getD_nlz]; exact Rep.nlz k (hr i (by simpa using hi))
    | tup c => cases h with | tup hn hr => exact .tup (by simpa using hn) fun i hi => by rw [getD_nlz]; exact Rep.nlz k (hr i (by simpa using hi))
    | _ => exact h
theorem Ret.nl (k : Nat) {f : FuncId} {args : List AV} {r r' : AV} {blks : List Blk} (h : Ret P G f args r blks) (e : nlz k r = r') : Ret P G f args r' blks := by
  subst e
  intro ro w vs hlt hr hg
  refine (h ro w vs hlt hr hg).mono ?_
  rintro e w' ⟨μ', ro', h1, h2, h3⟩
  refine ⟨μ', ro', h1, ?_, h3⟩
  cases e with
  | returned x => exact Rep.nlz k h2
  | _ => exact h2
theorem reps_one {μ : Nat → Option Loc} {ro : Nat → Prop} {w : World} {o : Bool} {a : AV} {vs : Array Value} (h : Reps μ ro w o [a] vs.toList) : ∃ x, vs = #[x] ∧ Rep μ ro w o a x := by
  obtain ⟨l⟩ := vs
  obtain ⟨h1, h2⟩ := h
  match l, h1 with
  | [x], _ => exact ⟨x, rfl, h2 0 (by simp)⟩
/-- A table that lies in a variable. -/
theorem tab_of {ro : Nat → Prop} {w : World} {name : String} {k : IntKind} {zs : List Int} {g : Nat} (hn : P.globalNamed name = some g) (hG : G g = .rop (zs.map (AV.int k)) 0) (hg : GlRel G (fun _ => none) ro w) : Go.Lib.TabIs P w name k zs := by
  obtain ⟨h1, h2⟩ := hg g
  obtain ⟨-, cs, e, l, hc, hs⟩ := h2 _ hG
  rw [hG] at h1
  rw [List.length_map] at hs
  have hcells : ∀ i : Nat, i < zs.length → w.cell? ⟨g, i, none⟩ = some (Value.int k (zs.getD i 0)) := by
    generalize hv : (.pointer (some ⟨g, 0, none⟩) : Value) = v at h1
    cases h1 with
    | rop vs hb hc hr =>
      simp only [Value.pointer.injEq, Option.some.injEq, Addr.mk.injEq] at hv
      obtain ⟨rfl, h0, -⟩ := hv
      intro i hi
      have hi' : i < (zs.map (AV.int k)).length := by rw [List.length_map]; exact hi
      have c := hc i hi'
      have r := hr i hi'
      have e0 : (zs.map (AV.int k)).getD i .any = .int k (zs.getD i 0) := by
        simp [List.getD_eq_getElem?_getD, List.getElem?_eq_getElem hi]
      rw [e0] at r
      generalize hx : vs i = x at r c
      cases r
      rw [show (⟨g, i, none⟩ : Addr) = ⟨g, (0 : Nat) + i, none⟩ by rw [Nat.zero_add]]
      first | exact c | (rw [h0] at c; simpa using c) | (simp at h0; subst h0; simpa using c)
  unfold Go.Lib.TabIs World.var?
  rw [hn]
  simp only [Option.bind_some, hc]
  congr 1
  apply Array.ext
  · simp [hs]
  · intro i h3 h4
    have hi : i < zs.length := by omega
    have := hcells i hi
    simp only [World.cell?, hc] at this
    simp at this
    rw [Array.getElem?_eq_getElem h3] at this
    have := Option.some.inj this
    rw [this]
    simp [List.getElem?_eq_getElem hi]
/-- What is said of the variables, from the tables that they hold. -/
theorem gl_tabs {W : World} (h : ∀ g, G g = .any ∨ ∃ name k zs, G g = .rop (zs.map (AV.int k)) 0 ∧ P.globalNamed name = some g ∧ Go.Lib.TabIs P W name k zs) : GlRel G (fun _ => none) (fun b => b < W.heap.size) W := by
  intro g
  rcases h g with h | ⟨name, k, zs, hG, hn, ht⟩
  · rw [h]; exact ⟨.any, fun _ h => by cases h⟩
  · unfold Go.Lib.TabIs World.var? at ht
    rw [hn] at ht
    simp only [Option.bind_some] at ht
    have key : ∃ cs e l, W.heap[g]? = some (.cells cs e l) ∧ cs = (zs.map fun z => Value.int k z).toArray := by
      split at ht
      · rename_i cs e l hc
        exact ⟨cs, e, l, hc, Option.some.inj ht⟩
      · cases ht
    obtain ⟨cs, e, l, hc, rfl⟩ := key
    have hlt : g < W.heap.size := (Array.getElem?_eq_some_iff.1 hc).1
    rw [hG]
    refine ⟨?_, fun c hc' => ?_⟩
    · refine Rep.rop (p := 0) (fun i => Value.int k (zs.getD i 0)) hlt (fun i hi => ?_) (fun i hi => ?_)
      · rw [List.length_map] at hi
        simp [World.cell?, hc, List.getElem?_eq_getElem hi]
      · rw [List.length_map] at hi
        rw [show (zs.map (AV.int k)).getD i .any = .int k (zs.getD i 0) by simp [List.getD_eq_getElem?_getD, List.getElem?_eq_getElem hi]]
        exact .int
    · injection hc' with h1 _
      subst h1
      exact ⟨hlt, _, e, l, hc, by simp⟩
end Go.Proofs.YtnlaiahcemckkaaGreatDoor.Av
/- What is read of plain data, within the form's own reach. -/
set_option linter.unusedVariables false
set_option linter.unusedSimpArgs false
namespace Go.Proofs.YtnlaiahcemckkaaGreatDoor.Av
open Go.RowKit Go.ChangeShapes Go.WideShapes Go.ChangeAt
variable {P : Program} {W : World} {H : Type} {enc : TypeId × Value → H} {sp : Nat → Bool} {held : Bool}
theorem weights_mem_all {e : TypeId} {n : Nat} {d : DataW H} : ∀ {l : List (DataW H)}, d ∈ l → n ∈ d.weights P e → n ∈ DataW.weightsAll P e l
  | x :: l, h, hn => by
    simp only [DataW.weightsAll, List.mem_append]
    rcases List.mem_cons.1 h with rfl | h
    · exact .inl hn
    · exact .inr (weights_mem_all h hn)
/-- of an argument's reading -/
theorem reach_of {ts : List TypeId} {ds : List (DataW H)} (h : (DataW.weightsEach P ts ds).all (· ≤ reachBytes) = true) (j : Nat) {t : TypeId} {d : DataW H} (ht : ts[j]? = some t) (hd : ds[j]? = some d) : ∀ k ∈ d.weights P t, k ≤ reachBytes := fun k hk => by
  have := List.all_eq_true.1 h k (DataW.weights_mem_each ht hd k hk)
  simpa using this
/-- cells that read as plain data of a type, strings within the reach -/
def HasW (P : Program) : Nat → TypeId → List AV → Prop
  | 0, _, _ => False
  | n + 1, t, c =>
    match P.underlying t with
    | some .bool => ∃ b, c = [.bool b]
    | some (.int k) => ∃ z, c = [.int k z] ∧ InR k z
    | some .string => ∃ s : List UInt8, c = [.str s] ∧ s.length ≤ reachBytes
    | some (.slice e) => ∃ es : List (List AV), c = [.lst es.flatten es.length] ∧ es.length ≤ maxLen ∧ (∀ x ∈ es, HasW P n e x) ∧ es.length * P.bytesOf e ≤ reachBytes
    | some (.struct fs) => HasFs (HasW P n) fs.toList c
    | _ => False
theorem trod_repW : ∀ (n fuel : Nat) (t : TypeId) (cs : List Value) (x : DataW H × List MemPlace), plainT P n t = true → DataW.trod enc P W 0 sp held fuel t cs = some x → (∀ k ∈ x.1.weights P t, k ≤ reachBytes) →
    ∃ c, HasW P n t c ∧ Reps (fun _ => none) (roW W) W false c cs ∧ cs.length = P.cellsOf t
  | 0, _, _, _, _, hp, _, _ => by cases hp
  | n + 1, fuel, t, cs, x, hp, h, hz => by
    unfold plainT at hp
    split at hp
    · rename_i hu
      obtain ⟨b, rfl, _⟩ := DataW.trod_bool hu h
      exact ⟨[.bool b], by simp [HasW, hu], Reps.cons .bool Reps.nil, (Nat.eq_of_beq_eq_true hp).symm⟩
    · rename_i k hu
      obtain ⟨z, rfl, _, hw⟩ := DataW.trod_int hu h
      refine ⟨[.int k z], ?_, Reps.cons .int Reps.nil, (Nat.eq_of_beq_eq_true hp).symm⟩
      simp only [HasW, hu]
      refine ⟨z, rfl, ?_⟩
      simp only [Lit.wf, Bool.and_eq_true, decide_eq_true_eq] at hw
      exact hw
    · rename_i hu
      obtain ⟨s, rfl, rfl, hs⟩ := DataW.trod_string hu h
      refine ⟨[.str s.data.toList], ?_, Reps.cons (.str rfl) Reps.nil, (Nat.eq_of_beq_eq_true hp).symm⟩
      simp only [HasW, hu]
      exact ⟨_, rfl, hz _ (by simp [DataW.weights])⟩
    · rename_i e hu
      simp only [Bool.and_eq_true] at hp
      have hc1 := (Nat.eq_of_beq_eq_true hp.1).symm
      rcases DataW.trod_slice hu h with ⟨rfl, _⟩ | ⟨a, len, cap, elems, rest, m, _, rfl, hxe, hb, hl, hm, hlen, hel, _, _⟩
      · refine ⟨[.lst [] 0], ?_, Reps.cons .lstn Reps.nil, hc1⟩
        simp only [HasW, hu]
        exact ⟨[], rfl, Nat.zero_le _, fun x hx => (by cases hx), by simp⟩
      · have hwt := hz _ (by rw [hxe]; simp only [DataW.weights, hu]; exact List.mem_cons_self ..)
        have each : ∀ i, i < len → ∃ q : List AV × List Value, HasW P n e q.1 ∧ Reps (fun _ => none) (roW W) W false q.1 q.2 ∧ q.2.length = P.cellsOf e ∧ W.cells? 0 (a.add (i * P.cellsOf e)) (P.cellsOf e) = some q.2 := fun i hi => by
          have h1 := hel i hi
          rw [List.getElem?_eq_getElem (by omega), Option.bind_eq_some_iff] at h1
          obtain ⟨vs, h2, h3⟩ := h1
          obtain ⟨c, h4, h5, h6⟩ := trod_repW n m e vs _ hp.2 h3 fun k hk => hz k (by
            rw [hxe]
            simp only [DataW.weights, hu, List.mem_cons, List.mem_append]
            exact .inr (.inl (weights_mem_all (List.mem_map.2 ⟨_, List.getElem_mem (by omega), rfl⟩) hk)))
          exact ⟨(c, vs), h4, h5, h6, h2⟩
        obtain ⟨l, hl1, hl2⟩ := list_of each
        refine ⟨[.lst (l.map (·.1)).flatten len], ?_, ?_, hc1⟩
        · simp only [HasW, hu]
          refine ⟨l.map (·.1), by simp [hl1], by simp [hl1]; omega, fun y hy => ?_, ?_⟩
          rotate_left
          · rw [List.length_map, hl1]
            exact Nat.le_trans (Nat.mul_le_mul_right _ (by simp; omega)) hwt
          obtain ⟨q, hq, rfl⟩ := List.mem_map.1 hy
          obtain ⟨i, hi, rfl⟩ := List.getElem_of_mem hq
          exact (hl2 i _ (List.getElem?_eq_getElem hi)).1
        · refine Reps.cons ?_ Reps.nil
          have hz : ∀ y ∈ l.map (·.1), y.length = P.cellsOf e := fun y hy => by
            obtain ⟨q, hq, rfl⟩ := List.mem_map.1 hy
            obtain ⟨i, hi, rfl⟩ := List.getElem_of_mem hq
            obtain ⟨_, h2, h3, _⟩ := hl2 i _ (List.getElem?_eq_getElem hi)
            rw [← h2.1]; exact h3
          have hfl := flatten_len hz
          by_cases hne : (l.map (·.1)).flatten = []
          · rw [hne]
            exact .lst (fun _ => undef) (fun h => absurd rfl h) (fun i hi => by simp at hi) (fun i hi => by simp at hi) hl
          have hz0 : 0 < P.cellsOf e := by
            rcases Nat.eq_zero_or_pos (P.cellsOf e) with h0 | h0
            · rw [h0, Nat.mul_zero] at hfl
              exact absurd (List.length_eq_zero_iff.1 hfl) hne
            · exact h0
          -- the cells
          have cell : ∀ i, i < (l.map (·.1)).flatten.length → ∃ v, W.cell? (a.add i) = some v ∧ Rep (fun _ => none) (roW W) W false ((l.map (·.1)).flatten.getD i .any) v := fun i hi => by
            rw [hfl, List.length_map] at hi
            have hq : i / P.cellsOf e < l.length := Nat.div_lt_of_lt_mul (by rw [Nat.mul_comm]; exact hi)
            have hr := Nat.mod_lt i hz0
            have hi2 : i = i / P.cellsOf e * P.cellsOf e + i % P.cellsOf e := by rw [Nat.mul_comm]; exact (Nat.div_add_mod i _).symm
            obtain ⟨_, h2, h3, h4⟩ := hl2 _ _ (List.getElem?_eq_getElem hq)
            obtain ⟨_, _, h6⟩ := World.cells?_some h4
            have h7 := h6 (i % P.cellsOf e) hr
            refine ⟨(l[i / P.cellsOf e].2).getD (i % P.cellsOf e) undef, ?_, ?_⟩
            · rw [getD_list _ _ undef (by omega)] at h7
              rw [← h7]
              rw [add_add, ← hi2]
            · have h8 := h2.2 (i % P.cellsOf e) (by rw [← h2.1]; omega)
              have e1 : (l.map (·.1)).flatten.getD i .any = (l[i / P.cellsOf e].1).getD (i % P.cellsOf e) .any := by
                rw [List.getD_eq_getElem?_getD]
                conv => lhs; rw [hi2]
                rw [flatten_get hz hr, List.getElem?_map, List.getElem?_eq_getElem hq]
                simp [List.getD]
              rw [e1]
              exact h8
          have hsp : a.spot = none ∧ a.block < W.heap.size := by
            obtain ⟨v, h1, _⟩ := cell 0 (List.length_pos_iff.2 hne)
            obtain ⟨b, o, s⟩ := a
            cases s with
            | some s =>
              have hnone : W.cell? ((⟨b, o, some s⟩ : Addr).add 0) = none := by unfold World.cell?; split <;> simp [Addr.add]
              rw [hnone] at h1; cases h1
            | none =>
              refine ⟨rfl, ?_⟩
              cases hh : W.heap[b]? with
              | none => simp [Addr.add, World.cell?, hh] at h1
              | some x => exact (Array.getElem?_eq_some_iff.1 hh).1
          obtain ⟨b, o, s⟩ := a
          obtain ⟨rfl, hbl⟩ := hsp
          refine .lst (fun i => ((W.cell? ⟨b, o + i, none⟩).getD undef)) (fun _ => ⟨hbl, rfl⟩) (fun i hi => ?_) (fun i hi => ?_) hl
          · obtain ⟨v, h1, _⟩ := cell i hi
            rw [addr_add] at h1
            simp [h1]
          · obtain ⟨v, h1, h2⟩ := cell i hi
            rw [addr_add] at h1
            simp only [h1, Option.getD_some]
            exact h2
    · rename_i fs hu
      simp only [Bool.and_eq_true] at hp
      obtain ⟨xs, m, _, hxe, hl, hxl, hf⟩ := DataW.trod_struct hu h
      have main : ∀ (gs : List Field) (o : Nat), (∀ (i : Nat) f, gs[i]? = some f → ∃ y, DataW.trod enc P W 0 sp held m f.type ((cs.drop f.offset).take (P.cellsOf f.type)) = some y ∧ ∀ k ∈ y.1.weights P f.type, k ≤ reachBytes) → gs.all (fun f => plainT P n f.type) = true → layB P gs o (P.cellsOf t) = true →
          ∃ c, HasFs (HasW P n) gs c ∧ Reps (fun _ => none) (roW W) W false c (cs.drop o) := fun gs => by
        induction gs with
        | nil =>
          intro o _ _ hlay
          have := Nat.eq_of_beq_eq_true hlay
          refine ⟨[], rfl, ?_⟩
          rw [List.drop_eq_nil_of_le (by omega)]
          exact Reps.nil
        | cons f gs ih =>
          intro o hg hall hlay
          simp only [List.all_cons, Bool.and_eq_true] at hall
          simp only [layB, Bool.and_eq_true] at hlay
          have ho := Nat.eq_of_beq_eq_true hlay.1
          obtain ⟨y, hy, hyz⟩ := hg 0 f rfl
          obtain ⟨c1, h1, h2, h3⟩ := trod_repW n m f.type _ y hall.1 hy hyz
          obtain ⟨c2, h4, h5⟩ := ih (o + P.cellsOf f.type) (fun i f' hf' => hg (i + 1) f' (by simpa using hf')) hall.2 hlay.2
          refine ⟨c1 ++ c2, ⟨c1, c2, rfl, h1, h4⟩, ?_⟩
          rw [ho] at h2
          have := h2.app h5
          rwa [← List.drop_drop, List.take_append_drop] at this
      obtain ⟨c, h1, h2⟩ := main fs.toList 0 (fun i f hi => by
        have hi' : fs[i]? = some f := by simpa using hi
        have hlt : i < fs.size := (Array.getElem?_eq_some_iff.1 hi').1
        exact ⟨xs[i], by rw [hf i f hi', List.getElem?_eq_getElem (by omega)], fun k hk => hz k (by
          rw [hxe]
          simp only [DataW.weights, hu]
          exact DataW.weights_mem_each (j := i) (t := f.type) (d := xs[i].1) (by simp [hi]) (by simp [List.getElem?_eq_getElem (show i < xs.length by omega)]) k hk)⟩) hp.1 hp.2
      refine ⟨c, ?_, by simpa using h2, hl⟩
      simp only [HasW, hu]
      exact h1
    · cases hp
/-- whatever reads as a type is made of typed values -/
def ReadsW (P : Program) (n : Nat) (t : TypeId) {X : Type} (f : X → List AV) (wf : X → Prop) : Prop := ∀ c, HasW P n t c → ∃ x : X, c = f x ∧ wf x
def swfW (s : List UInt8) : Prop := s.length ≤ reachBytes
theorem readsW_int {n : Nat} {t : TypeId} {k : IntKind} (hu : P.underlying t = some (.int k)) : ReadsW P (n + 1) t (fun z : Int => [.int k z]) (InR k) := fun c h => by
  simp only [HasW, hu] at h
  obtain ⟨z, h1, h2⟩ := h
  exact ⟨z, h1, h2⟩
theorem hasW_struct {n : Nat} {t : TypeId} {fs : Array Field} {c : List AV} (hu : P.underlying t = some (.struct fs)) (h : HasW P (n + 1) t c) : HasFs (HasW P n) fs.toList c := by
  simp only [HasW, hu] at h
  exact h
theorem readsW_str {n : Nat} {t : TypeId} (hu : P.underlying t = some .string) : ReadsW P (n + 1) t (fun s : List UInt8 => [.str s]) swfW := fun c h => by
  simp only [HasW, hu] at h
  obtain ⟨z, h1, h2⟩ := h
  exact ⟨z, h1, h2⟩
/-- a list within the reach: of so many bytes an element -/
def lwfW {X : Type} (b : Nat) (wf : X → Prop) (l : List X) : Prop := lwf wf l ∧ l.length * b ≤ reachBytes
theorem readsW_list {n : Nat} {t e : TypeId} {X : Type} {f : X → List AV} {wf : X → Prop} {b : Nat} (hu : P.underlying t = some (.slice e)) (hb : P.bytesOf e = b) (he : ReadsW P n e f wf) : ReadsW P (n + 1) t (lstf f) (lwfW b wf) := fun c h => by
  simp only [HasW, hu] at h
  obtain ⟨es, rfl, h1, h2, hr⟩ := h
  rw [hb] at hr
  have : ∃ l : List X, es = l.map f ∧ ∀ x ∈ l, wf x := by
    clear h1 hr
    induction es with
    | nil => exact ⟨[], rfl, fun x hx => by cases hx⟩
    | cons c es ih =>
      obtain ⟨l, rfl, h3⟩ := ih fun x hx => h2 x (List.mem_cons_of_mem _ hx)
      obtain ⟨x, rfl, h4⟩ := he c (h2 c (List.mem_cons_self ..))
      exact ⟨x :: l, rfl, fun y hy => by rcases List.mem_cons.1 hy with rfl | hy; exact h4; exact h3 y hy⟩
  obtain ⟨l, rfl, h3⟩ := this
  refine ⟨l, ?_, ⟨by simpa using h1, h3⟩, by simpa using hr⟩
  simp [lstf, fl, List.flatMap]
/-- an argument that is one cell -/
theorem argW_one {n : Nat} {t : TypeId} {v : Value} {d : DataW H} {ps : List MemPlace} {X : Type} {f : X → AV} {g : X → List AV} {wf : X → Prop} (hr : ReadsW P n t g wf) (hf : ∀ x, g x = [f x]) (hp : plainT P n t = true) (hv : ∀ cs, v ≠ .agg cs)
    (h : DataW.Trod enc P W 0 sp held t v d ps) (hz : ∀ k ∈ d.weights P t, k ≤ reachBytes) : ∃ x, Rep (fun _ => none) (fun b => b < W.heap.size) W false (f x) v ∧ wf x := by
  obtain ⟨fuel, h⟩ := h
  have hc : v.cells.toList = [v] := by
    cases v <;> first | rfl | exact absurd rfl (hv _)
  rw [hc] at h
  obtain ⟨c, h1, h2, _⟩ := trod_repW n fuel t _ _ hp h hz
  obtain ⟨x, rfl, hw⟩ := hr c h1
  rw [hf] at h2
  obtain ⟨y, ys, h3, h4, _⟩ := h2.head
  simp only [List.cons.injEq] at h3
  exact ⟨x, h3.1 ▸ h4, hw⟩
/-- an argument of many cells -/
theorem argW_agg {n : Nat} {t : TypeId} {v : Value} {d : DataW H} {ps : List MemPlace} {X : Type} {f : X → List AV} {wf : X → Prop} (hr : ReadsW P n t f wf) (hp : plainT P n t = true) (hv : ∃ cs, v = .agg cs)
    (h : DataW.Trod enc P W 0 sp held t v d ps) (hz : ∀ k ∈ d.weights P t, k ≤ reachBytes) : ∃ x, Rep (fun _ => none) (fun b => b < W.heap.size) W false (.agg (f x)) v ∧ wf x := by
  obtain ⟨fuel, h⟩ := h
  obtain ⟨cs, rfl⟩ := hv
  obtain ⟨c, h1, h2, _⟩ := trod_repW n fuel t _ _ hp h hz
  obtain ⟨x, rfl, hw⟩ := hr c h1
  refine ⟨x, ?_, hw⟩
  have := h2.agg
  simpa [Value.cells] using this
end Go.Proofs.YtnlaiahcemckkaaGreatDoor.Av
/- Closed runs in parts: calls that are known, told by what they are given. -/
set_option linter.unusedVariables false
set_option linter.unusedSimpArgs false
namespace Go.Proofs.YtnlaiahcemckkaaGreatDoor.Av
open Go.RowKit
variable {P : Program} {G : Nat → AV}
/-- the blocks, by the numbers r: tried -/
def blkEqsB (m : Tr Ob) (r : List Nat) : List Nat → List Blk → Bool
  | i :: l, b :: bs => (match m.get i with | some k => eqOb k (renB r b).ob | none => false) && blkEqsB m r l bs
  | [], [] => true
  | _, _ => false
theorem blkEqsB_iff {m : Tr Ob} {r : List Nat} : ∀ {l : List Nat} {bs : List Blk}, blkEqsB m r l bs = true → blkEqs m r l bs
  | [], [], _ => trivial
  | i :: l, b :: bs, h => by
    simp only [blkEqsB, Bool.and_eq_true] at h
    refine ⟨?_, blkEqsB_iff h.2⟩
    have h1 := h.1
    split at h1
    · rename_i k hk
      rw [hk, eqOb_eq h1]
    · cases h1
  | [], _ :: _, h => by cases h
  | _ :: _, [], h => by cases h
/-- a call that is known: the function, where the blocks lie, and the contract -/
structure Ent (P : Program) (G : Nat → AV) where
  f : FuncId
  nx : Nat
  ρ : List Nat
  m : Nat
  args : List AV
  blks : List Blk
  r : AV
  blks' : List Blk
  ok : CallsM P G m f args blks r blks'
def Ent.try (e : Ent P G) (f : FuncId) (args : List AV) (h : Hp) : Bool :=
  Nat.beq f e.f && Nat.beq h.nx e.nx && eqL (eqV 12) args (e.args.map (ren e.ρ 4)) && blkEqsB h.m e.ρ e.ρ e.blks && (fspec e.m e.ρ e.args e.blks e.r e.blks').ok args h
def tabF : List (Ent P G) → FuncId → List AV → Hp → Option (CO × Hp)
  | [], _, _, _ => none
  | e :: l, f, args, h => match e.try f args h with | true => some ((fspec e.m e.ρ e.args e.blks e.r e.blks').res args h) | false => tabF l f args h
theorem tabF_ok : ∀ (l : List (Ent P G)) (f : FuncId) (args : List AV) (h : Hp) (r : CO × Hp), tabF l f args h = some r → CallDoes P G f args h r.1 r.2
  | [], _, _, _, _, h => by cases h
  | e :: l, f, args, h, r, hr => by
    unfold tabF at hr
    split at hr
    · rename_i ht
      simp only [Option.some.injEq] at hr
      subst hr
      simp only [Ent.try, Bool.and_eq_true] at ht
      obtain ⟨⟨⟨⟨h1, h2⟩, h3⟩, h4⟩, h5⟩ := ht
      have hf : f = e.f := Nat.eq_of_beq_eq_true h1
      subst hf
      exact fspec_ok e.ρ e.ok args h h5 ⟨eqL_eq (eqV_eq 12) h3, blkEqsB_iff h4⟩
    · exact tabF_ok l f args h r hr
def tab (l : List (Ent P G)) : Tab P G := ⟨tabF l, tabF_ok l⟩
/-- what a run came to, tried -/
def runB (ρ : List Nat) (m : Nat) (r : AV) (blks' : List Blk) (n0 : Nat) (x : W (CO × Hp × List CH)) : Bool :=
  match x with
  | some ((.ret v, h, []), []) => eqV 12 v (ren ρ 4 r) && blkEqsB h.m ρ ρ blks' && (okR ρ r blks' && idM ρ m && Nat.ble m n0)
  | _ => false
theorem CallsM.of_run (T : Tab P G) (m fuel : Nat) (ρ : List Nat) {f : FuncId} {args : List AV} {blks : List Blk} {r : AV} {blks' : List Blk}
    (he : runB ρ m r blks' blks.length (evBody P (evT P G T fuel) f args (hpOf blks ⟨.e, 0⟩) []) = true) : CallsM P G m f args blks r blks' := by
  intro μ ro w vs ha hh hg
  unfold runB at he
  split at he
  · rename_i v h' hr
    simp only [Bool.and_eq_true] at he
    obtain ⟨⟨h0, h1⟩, ⟨⟨hc, hid⟩, hm⟩⟩ := he
    have hv := eqV_eq 12 _ _ h0
    subst hv
    have hb : blkEqs h'.m ρ ρ blks' := blkEqsB_iff h1
    simp only [okR, Bool.and_eq_true] at hc
    obtain ⟨⟨hc1, hc2⟩, hc3⟩ := hc
    have hm := Nat.le_of_ble_eq_true hm
    have hid := idM_spec hid
    have hd := callT_sat P G T fuel f args (hpOf blks ⟨.e, 0⟩) [] _ _ hr trivial μ ro w vs ha hh hg
    have hnx : (hpOf blks ⟨.e, 0⟩).nx = blks.length := by
      have := (hpOf_get blks ⟨.e, 0⟩ 0).1
      simp only [Nat.zero_add] at this
      exact this
    refine hd.mono ?_
    rintro e w1 ⟨μ', ro', hup, hco, hh1⟩
    refine ⟨muOf ρ μ', ro', ⟨fun i hi => ?_, hup.up, hup.nw, ⟨hup.fr.os, hup.fr.tape, hup.fr.output, hup.fr.size, hup.fr.block, hup.fr.rest, fun i l hi => ?_⟩⟩, ?_, hh1.ren hb hc1 hc2 (fun i hi => if_pos hi) (fun i hi => if_neg (by omega))⟩
    · unfold muOf
      rw [if_pos (hid i hi).1, (hid i hi).2]
      exact hup.ag i (by rw [hnx]; omega)
    · unfold muOf at hi
      split at hi
      · exact hup.fr.new _ l hi
      · cases hi
    · cases e <;> simp only [CoRel] at hco ⊢
      exact ren_rep (fun i hi => if_pos hi) 4 hc3 hco
  · cases he
/-- a closed law that comes to true -/
theorem Ret.of_true (T : Tab P G) (fuel : Nat) {f : FuncId} (he : yes (evBody P (evT P G T fuel) f [] ⟨.e, 0⟩ []) = true) : Ret P G f [] (.bool true) [] := by
  unfold yes at he
  split at he
  · rename_i h' hr
    intro ro w vs hro ha hg
    have hd := callT_sat P G T fuel f [] ⟨.e, 0⟩ [] _ _ hr trivial (fun _ => none) ro w vs ha.up ⟨fun i k h => (by simp [Tr.get] at h), fun i j k l b c h => (by simp [Tr.get] at h), fun i k b h => (by simp [Tr.get] at h), fun i b h => (by cases h), hro, fun i hi => rfl⟩ hg
    refine hd.mono ?_
    rintro e w1 ⟨μ', ro', hup, hco, hh1⟩
    refine ⟨fun _ => none, ro', ⟨fun i hi => rfl, hup.up, hup.nw, ⟨hup.fr.os, hup.fr.tape, hup.fr.output, hup.fr.size, hup.fr.block, hup.fr.rest, fun i l hi => (by cases hi)⟩⟩, ?_, ?_⟩
    · cases e <;> simp only [CoRel] at hco ⊢
      cases hco; exact .bool
    · exact ⟨fun i k h => (by simp [hpOf, Tr.get] at h), fun i j k l b c h => (by simp [hpOf, Tr.get] at h), fun i k b h => (by simp [hpOf, Tr.get] at h), fun i b h => (by cases h), hh1.old, fun i hi => rfl⟩
  · cases he
end Go.Proofs.YtnlaiahcemckkaaGreatDoor.Av
