/- Regions whose operations may be carried out in many orders: lists and footprints. -/
import Derived.Test.YtnlaiahcemckkaaGreatDoorAvQ
import Derived.OrdersHeld
set_option linter.unusedVariables false
set_option linter.unusedSimpArgs false
namespace Go.Proofs.YtnlaiahcemckkaaGreatDoor.Av
open Go.RowKit
variable {P : Program} {G : Nat → AV} {μ μ' : Nat → Option Loc} {ro ro' : Nat → Prop} {w w' : World}
/-- the numbers that a value shows -/
def idsN : Nat → AV → List Nat
  | 0, v => match v with | .ptr id _ => [id] | .sl id _ _ _ _ _ => [id] | .vec id _ _ => [id] | .mapr id => [id] | .yld id => [id] | .stp id => [id] | _ => []
  | k + 1, v => match v with | .ptr id _ => [id] | .sl id _ _ _ _ _ => [id] | .vec id _ _ => [id] | .mapr id => [id] | .yld id => [id] | .stp id => [id] | .agg c => c.flatMap (idsN k) | .tup c => c.flatMap (idsN k) | .fn _ a c => a.flatMap (idsN k) ++ c.flatMap (idsN k) | .ifc _ v => idsN k v | _ => []
/-- are they all among these? -/
def inN (fp : List Nat) : Nat → AV → Bool
  | 0, v => match v with | .ptr id _ => memN id fp | .sl id _ _ _ _ _ => memN id fp | .vec id _ _ => memN id fp | .mapr id => memN id fp | .yld id => memN id fp | .stp id => memN id fp | .agg _ => false | .tup _ => false | .fn _ _ _ => false | .ifc _ _ => false | _ => true
  | k + 1, v => match v with | .ptr id _ => memN id fp | .sl id _ _ _ _ _ => memN id fp | .vec id _ _ => memN id fp | .mapr id => memN id fp | .yld id => memN id fp | .stp id => memN id fp | .agg c => c.all (inN fp k) | .tup c => c.all (inN fp k) | .fn _ a c => a.all (inN fp k) && c.all (inN fp k) | .ifc _ v => inN fp k v | _ => true
theorem inN_rep {fp : List Nat} (hμ : ∀ i, memN i fp = true → μ' i = μ i) : ∀ (k : Nat) {o : Bool} {v : AV} {x : Value}, Rep μ ro w o v x → inN fp k v = true → Rep μ' ro w o v x
  | 0, o, v, x, h, hp => by
    cases h with
    | any => exact .any
    | bool => exact .bool
    | int => exact .int
    | str h => exact .str h
    | ptr h => exact .ptr ((hμ _ hp).trans h)
    | nilp => exact .nilp
    | rop vs hb hc hr => exact .rop vs hb hc fun i hi => (hr i hi).any_mu
    | sl h h1 h2 h3 => exact .sl ((hμ _ hp).trans h) h1 h2 h3
    | vec h h1 h3 => exact .vec ((hμ _ hp).trans h) h1 h3
    | vecn => exact .vecn
    | lst vs hb hc hr hn => exact .lst vs hb hc (fun i hi => (hr i hi).any_mu) hn
    | lstn => exact .lstn
    | nils => exact .nils
    | nen => exact .nen
    | agg hn hr => cases hp
    | tup hn hr => cases hp
    | fn hn hr hm hs => cases hp
    | nilf => exact .nilf
    | ifc h => cases hp
    | nili => exact .nili
    | mapr h => exact .mapr ((hμ _ hp).trans h)
    | yld h => exact .yld ((hμ _ hp).trans h)
    | stp h => exact .stp ((hμ _ hp).trans h)
    | nilm => exact .nilm
  | k + 1, o, v, x, h, hp => by
    cases h with
    | any => exact .any
    | bool => exact .bool
    | int => exact .int
    | str h => exact .str h
    | ptr h => exact .ptr ((hμ _ hp).trans h)
    | nilp => exact .nilp
    | rop vs hb hc hr => exact .rop vs hb hc fun i hi => (hr i hi).any_mu
    | sl h h1 h2 h3 => exact .sl ((hμ _ hp).trans h) h1 h2 h3
    | vec h h1 h3 => exact .vec ((hμ _ hp).trans h) h1 h3
    | vecn => exact .vecn
    | lst vs hb hc hr hn => exact .lst vs hb hc (fun i hi => (hr i hi).any_mu) hn
    | lstn => exact .lstn
    | nils => exact .nils
    | nen => exact .nen
    | agg hn hr => exact .agg hn fun i hi => inN_rep hμ k (hr i hi) (all_get hp hi)
    | tup hn hr => exact .tup hn fun i hi => inN_rep hμ k (hr i hi) (all_get hp hi)
    | fn hn hr hm hs =>
      simp only [inN, Bool.and_eq_true] at hp
      exact .fn hn (fun i hi => inN_rep hμ k (hr i hi) (all_get hp.1 hi)) hm (fun i hi => inN_rep hμ k (hs i hi) (all_get hp.2 hi))
    | nilf => exact .nilf
    | ifc h => exact .ifc (inN_rep hμ k h hp)
    | nili => exact .nili
    | mapr h => exact .mapr ((hμ _ hp).trans h)
    | yld h => exact .yld ((hμ _ hp).trans h)
    | stp h => exact .stp ((hμ _ hp).trans h)
    | nilm => exact .nilm
/-- a trie, of these numbers only -/
def restT {α : Type} (t : Tr α) : List Nat → Tr α
  | [] => .e
  | x :: l => match t.get x with | some v => (restT t l).put x (some v) | none => restT t l
theorem restT_get {α : Type} {t : Tr α} {x : Nat} : ∀ {l : List Nat}, (restT t l).get x = if memN x l = true then t.get x else none
  | [] => by simp [restT, memN, Tr.get]
  | y :: l => by
    simp only [restT, memN_cons]
    by_cases e : x = y
    · subst e
      split
      · rename_i v hv; simp [Tr.get_put, hv]
      · rename_i hv; rw [restT_get]; simp [hv]
    · rw [if_neg e]
      split
      · rw [Tr.get_put, if_neg e, restT_get]
      · exact restT_get
/-- what can be reached -/
def reach (m : Tr Ob) : Nat → List Nat → List Nat → List Nat
  | 0, _, seen => seen
  | _ + 1, [], seen => seen
  | f + 1, x :: l, seen =>
    match memN x seen with
    | true => reach m f l seen
    | false =>
      match m.get x with
      | some (.blk k) => match k.pl with | true => reach m f l (x :: seen) | false => reach m f (k.c.flatMap (idsN 6) ++ l) (x :: seen)
      | some _ => reach m f l (x :: seen)
      | none => reach m f l seen
def okT (tm : Tr AV) (fp : List Nat) (lk : List Nat) : Bool := lk.all fun t => match tm.get t with | some v => inN fp 6 v | none => true
def okH (m : Tr Ob) (nx : Nat) (fp : List Nat) : Bool :=
  fp.all fun x => match m.get x with | some (.blk k) => Nat.blt x nx && (k.pl || k.c.all (inN fp 6)) | some (.iter _ _) => Nat.blt x nx | some (.map _ _) => Nat.blt x nx | _ => false
theorem okT_get {tm : Tr AV} {fp lk : List Nat} (h : okT tm fp lk = true) {t : Nat} (ht : memN t lk = true) {v : AV} (hv : tm.get t = some v) : inN fp 6 v = true := by
  unfold okT at h
  rw [List.all_eq_true] at h
  have := h t (memN_iff.1 ht)
  rw [hv] at this
  exact this
theorem okH_get {m : Tr Ob} {nx : Nat} {fp : List Nat} (h : okH m nx fp = true) {x : Nat} (hx : memN x fp = true) :
    x < nx ∧ ∃ k, m.get x = some k ∧ (∀ b, k = .blk b → b.pl = true ∨ b.c.all (inN fp 6) = true) ∧ (∀ i, k ≠ .mie i) ∧ (∀ bz tm nt ps as bd, k ≠ .lp bz tm nt ps as bd) ∧ ∀ i kd es y, k ≠ .mst i kd es y := by
  unfold okH at h
  rw [List.all_eq_true] at h
  have := h x (memN_iff.1 hx)
  split at this
  · rename_i k hk
    simp only [Bool.and_eq_true, Bool.or_eq_true] at this
    exact ⟨Nat.le_of_ble_eq_true this.1, _, hk, fun b hb => (by cases hb; exact this.2), fun i hi => (by cases hi), fun _ _ _ _ _ _ hi => (by cases hi), fun _ _ _ _ hi => (by cases hi)⟩
  · rename_i hk
    exact ⟨Nat.le_of_ble_eq_true this, _, hk, fun b hb => (by cases hb), fun i hi => (by cases hi), fun _ _ _ _ _ _ hi => (by cases hi), fun _ _ _ _ hi => (by cases hi)⟩
  · rename_i hk
    exact ⟨Nat.le_of_ble_eq_true this, _, hk, fun b hb => (by cases hb), fun i hi => (by cases hi), fun _ _ _ _ _ _ hi => (by cases hi), fun _ _ _ _ hi => (by cases hi)⟩
  · cases this
/-- what an operation did -/
structure Rec where
  dst : Option Tmp
  lk : List Nat
  v : AV
  lo : Nat
  hi : Nat
  fp : List Nat
  wr : List Nat
  ob : List (Nat × Option Ob)
  anc : Nat
def lookN (x : Nat) : List (Nat × Option Ob) → Option (Option Ob)
  | [] => none
  | (y, o) :: l => match Nat.beq x y with | true => some o | false => lookN x l
theorem lookN_cons {x y : Nat} {o : Option Ob} {l : List (Nat × Option Ob)} : lookN x ((y, o) :: l) = if x = y then some o else lookN x l := by
  show (match Nat.beq x y with | true => some o | false => lookN x l) = _
  cases h : Nat.beq x y with
  | true => rw [if_pos (Nat.eq_of_beq_eq_true h)]
  | false => rw [if_neg (Nat.ne_of_beq_eq_false h)]
def putObs : List (Nat × Option Ob) → Tr Ob → Tr Ob
  | [], m => m
  | (y, o) :: l, m => (putObs l m).put y o
theorem putObs_get {x : Nat} {m : Tr Ob} : ∀ {l : List (Nat × Option Ob)}, (putObs l m).get x = match lookN x l with | some o => o | none => m.get x
  | [] => rfl
  | (y, o) :: l => by
    simp only [putObs, lookN, Tr.get_put]
    cases h : Nat.beq x y with
    | true => rw [if_pos (Nat.eq_of_beq_eq_true h)]
    | false => rw [if_neg (Nat.ne_of_beq_eq_false h)]; exact putObs_get
def obL (m : Tr Ob) : List Nat → List (Nat × Option Ob)
  | [] => []
  | x :: l => (x, m.get x) :: obL m l
theorem obL_look {m : Tr Ob} {x : Nat} : ∀ {l : List Nat}, lookN x (obL m l) = if memN x l = true then some (m.get x) else none
  | [] => by simp [obL, lookN, memN]
  | y :: l => by
    simp only [obL, lookN_cons, memN_cons]
    by_cases e : x = y
    · subst e
      simp
    · rw [if_neg e, if_neg e]
      exact obL_look
def appR (r : Rec) (s : St) : St := { s with tm := (match r.dst with | none => s.tm | some d => s.tm.put d (some r.v)), hp := ⟨putObs r.ob s.hp.m, r.hi⟩ }
/-- those in D, one behind the other -/
def stF : List Rec → Nat → (Nat → Bool) → St → St
  | [], _, _, s => s
  | r :: l, i, D, s => stF l (i + 1) D (match D i with | true => appR r s | false => s)
theorem appR_tm {r : Rec} {s : St} {t : Nat} : (appR r s).tm.get t = if r.dst = some t then some r.v else s.tm.get t := by
  unfold appR
  cases hd : r.dst with
  | none => simp
  | some d => simp only [Tr.get_put, Option.some.injEq]; by_cases e : t = d <;> simp [e]; intro h; exact absurd h.symm e
theorem appR_hp {r : Rec} {s : St} {x : Nat} : (appR r s).hp.m.get x = match lookN x r.ob with | some o => o | none => s.hp.m.get x := by
  unfold appR
  exact putObs_get
theorem stF_keep {l : List Rec} : ∀ {i : Nat} {D : Nat → Bool} {s : St}, (stF l i D s).nt = s.nt ∧ (stF l i D s).df = s.df := by
  induction l with
  | nil => intro i D s; exact ⟨rfl, rfl⟩
  | cons r l ih =>
    intro i D s
    simp only [stF]
    have := @ih (i + 1) D (match D i with | true => appR r s | false => s)
    rw [this.1, this.2]
    cases D i <;> exact ⟨rfl, rfl⟩
theorem stF_tm_congr {t : Nat} : ∀ {l : List Rec} {i : Nat} {D D' : Nat → Bool} {s s' : St}, (∀ k r, l[k]? = some r → r.dst = some t → D (i + k) = D' (i + k)) → s.tm.get t = s'.tm.get t → (stF l i D s).tm.get t = (stF l i D' s').tm.get t
  | [], i, D, D', s, s', _, h => h
  | r :: l, i, D, D', s, s', hk, h => by
    simp only [stF]
    refine stF_tm_congr (fun k r' hr hd => ?_) ?_
    · have := hk (k + 1) r' (by simpa using hr) hd
      rw [show i + 1 + k = i + (k + 1) by omega]; exact this
    · by_cases hd : r.dst = some t
      · have := hk 0 r (by simp) hd
        simp only [Nat.add_zero] at this
        rw [this]
        cases D' i
        · exact h
        · simp only [appR_tm, if_pos hd]
      · cases D i <;> cases D' i <;> simp only [appR_tm, if_neg hd, h]
theorem stF_hp_congr {x : Nat} : ∀ {l : List Rec} {i : Nat} {D D' : Nat → Bool} {s s' : St}, (∀ k r, l[k]? = some r → lookN x r.ob ≠ none → D (i + k) = D' (i + k)) → s.hp.m.get x = s'.hp.m.get x → (stF l i D s).hp.m.get x = (stF l i D' s').hp.m.get x
  | [], i, D, D', s, s', _, h => h
  | r :: l, i, D, D', s, s', hk, h => by
    simp only [stF]
    refine stF_hp_congr (fun k r' hr hd => ?_) ?_
    · have := hk (k + 1) r' (by simpa using hr) hd
      rw [show i + 1 + k = i + (k + 1) by omega]; exact this
    · cases hd : lookN x r.ob with
      | some o =>
        have := hk 0 r (by simp) (by rw [hd]; simp)
        simp only [Nat.add_zero] at this
        rw [this]
        cases D' i
        · exact h
        · simp only [appR_hp, hd]
      | none => cases D i <;> cases D' i <;> simp only [appR_hp, hd, h]
/-- the last word -/
theorem stF_tm_last {t : Nat} : ∀ {l : List Rec} {i k : Nat} {D : Nat → Bool} {s : St} {r : Rec}, l[k]? = some r → D (i + k) = true → r.dst = some t →
    (∀ k' r', k < k' → l[k']? = some r' → D (i + k') = true → r'.dst ≠ some t) → (stF l i D s).tm.get t = some r.v
  | [], i, k, D, s, r, h, _, _, _ => by simp at h
  | r0 :: l, i, 0, D, s, r, h, hD, hd, hk => by
    simp only [List.getElem?_cons_zero, Option.some.injEq] at h
    subst h
    simp only [Nat.add_zero] at hD
    simp only [stF, hD]
    have : (stF l (i + 1) D (appR r0 s)).tm.get t = (stF l (i + 1) (fun _ => false) (appR r0 s)).tm.get t := stF_tm_congr (fun k' r' hr hd' => by
      cases hc : D (i + 1 + k') with
      | false => rfl
      | true => exact absurd hd' (hk (k' + 1) r' (by omega) (by simpa using hr) (by rw [show i + (k' + 1) = i + 1 + k' by omega]; exact hc))) rfl
    rw [this]
    have none : ∀ {l : List Rec} {i : Nat} {s : St}, stF l i (fun _ => false) s = s := fun {l} => by
      induction l with
      | nil => intros; rfl
      | cons r l ih => intro i s; exact ih
    rw [none, appR_tm, if_pos hd]
  | r0 :: l, i, k + 1, D, s, r, h, hD, hd, hk => by
    simp only [stF]
    refine stF_tm_last (k := k) (by simpa using h) (by rw [show i + 1 + k = i + (k + 1) by omega]; exact hD) hd fun k' r' h1 h2 h3 => hk (k' + 1) r' (by omega) (by simpa using h2) (by rw [show i + (k' + 1) = i + 1 + k' by omega]; exact h3)
theorem stF_none : ∀ {l : List Rec} {i : Nat} {D : Nat → Bool} {s : St}, (∀ k, k < l.length → D (i + k) = false) → stF l i D s = s
  | [], _, _, _, _ => rfl
  | r :: l, i, D, s, h => by
    have h0 := h 0 (by simp)
    simp only [Nat.add_zero] at h0
    simp only [stF, h0]
    exact stF_none fun k hk => by
      have := h (k + 1) (by simp; omega)
      rw [show i + 1 + k = i + (k + 1) by omega]; exact this
theorem stF_hp_last {x : Nat} {o : Option Ob} : ∀ {l : List Rec} {i k : Nat} {D : Nat → Bool} {s : St} {r : Rec}, l[k]? = some r → D (i + k) = true → lookN x r.ob = some o →
    (∀ k' r', k < k' → l[k']? = some r' → D (i + k') = true → lookN x r'.ob = none) → (stF l i D s).hp.m.get x = o
  | [], i, k, D, s, r, h, _, _, _ => by simp at h
  | r0 :: l, i, 0, D, s, r, h, hD, hd, hk => by
    simp only [List.getElem?_cons_zero, Option.some.injEq] at h
    subst h
    simp only [Nat.add_zero] at hD
    simp only [stF, hD]
    have : (stF l (i + 1) D (appR r0 s)).hp.m.get x = (stF l (i + 1) (fun _ => false) (appR r0 s)).hp.m.get x := stF_hp_congr (fun k' r' hr hd' => by
      cases hc : D (i + 1 + k') with
      | false => rfl
      | true => exact absurd (hk (k' + 1) r' (by omega) (by simpa using hr) (by rw [show i + (k' + 1) = i + 1 + k' by omega]; exact hc)) hd') rfl
    rw [this, stF_none (fun _ _ => rfl), appR_hp, hd]
  | r0 :: l, i, k + 1, D, s, r, h, hD, hd, hk => by
    simp only [stF]
    refine stF_hp_last (k := k) (by simpa using h) (by rw [show i + 1 + k = i + (k + 1) by omega]; exact hD) hd fun k' r' h1 h2 h3 => hk (k' + 1) r' (by omega) (by simpa using h2) (by rw [show i + (k' + 1) = i + 1 + k' by omega]; exact h3)
/-- the first i, and no more -/
theorem stF_lt : ∀ {l : List Rec} {a k : Nat} {s : St}, stF l a (fun j => decide (j < a + k)) s = (l.take k).foldl (fun s r => appR r s) s
  | [], a, k, s => by simp [stF]
  | r :: l, a, 0, s => by
    rw [stF_none (fun k hk => by simp)]
    rfl
  | r :: l, a, k + 1, s => by
    simp only [stF, List.take_succ_cons, List.foldl_cons]
    rw [show decide (a < a + (k + 1)) = true by simp]
    simp only
    have := @stF_lt l (a + 1) k (appR r s)
    rw [show a + 1 + k = a + (k + 1) by omega] at this
    exact this
end Go.Proofs.YtnlaiahcemckkaaGreatDoor.Av
/- Regions whose operations may be carried out in many orders. -/
set_option linter.unusedVariables false
set_option linter.unusedSimpArgs false
namespace Go.Proofs.YtnlaiahcemckkaaGreatDoor.Av
open Go.RowKit
variable {P : Program} {G : Nat → AV} {μ μ' : Nat → Option Loc} {ro ro' : Nat → Prop} {w w' : World}
structure RecOk (P : Program) (G : Nat → AV) (ops : Array Oper) (C : St) (i : Nat) (r : Rec) : Prop where
  op : ∃ o, ops[i]? = some o ∧ r.dst = o.dst
  lo : r.lo = C.hp.nx
  hi : r.lo ≤ r.hi
  tm : okT C.tm r.fp r.lk = true
  hp : okH C.hp.m r.lo r.fp = true
  sub : ∀ x, memN x r.wr = true → memN x r.fp = true
  does : ∃ s1, StepDoes P G ops i ⟨restT C.tm r.lk, C.nt, ⟨restT C.hp.m r.fp, r.lo⟩, []⟩ .normal s1 ∧ s1.df = [] ∧ s1.hp.nx = r.hi ∧ (∀ d, r.dst = some d → s1.tm.get d = some r.v) ∧
    (∀ x, memN x r.fp = true → memN x r.wr = false → s1.hp.m.get x = C.hp.m.get x) ∧
    (∀ x, lookN x r.ob = if memN x r.wr = true ∨ (r.lo ≤ x ∧ x < r.hi) then some (s1.hp.m.get x) else none)
/-- a move of one temporary into another: it looks at no memory -/
structure MoveRec (P : Program) (ops : Array Oper) (C : St) (i : Nat) (r : Rec) : Prop where
  op : ∃ o t d v0, ops[i]? = some o ∧ o.guard = none ∧ o.dst = some d ∧ r.dst = some d ∧ memN t r.lk = true ∧ C.tm.get t = some v0 ∧ d < C.nt ∧
    (∀ (μ : Nat → Option Loc) (ro : Nat → Prop) (w : World) (ev : Operand → Value), Rep μ ro w true v0 (ev (.tmp t)) → ∃ y, (execOp ev o).run P w = .ok (.value y) w ∧ Rep μ ro w true r.v y)
  lo : r.lo = C.hp.nx
  hi : r.hi = C.hp.nx
  fp : r.fp = []
  wr : r.wr = []
  ob : r.ob = []
def RecK (P : Program) (G : Nat → AV) (ops : Array Oper) (C : St) (i : Nat) (r : Rec) : Prop := RecOk P G ops C i r ∨ MoveRec P ops C i r
theorem RecK.lo {ops : Array Oper} {C : St} {i : Nat} {r : Rec} (h : RecK P G ops C i r) : r.lo = C.hp.nx := h.elim RecOk.lo MoveRec.lo
theorem RecK.hi {ops : Array Oper} {C : St} {i : Nat} {r : Rec} (h : RecK P G ops C i r) : r.lo ≤ r.hi := h.elim RecOk.hi fun h => by rw [h.lo, h.hi]; exact Nat.le_refl _
theorem RecK.sub {ops : Array Oper} {C : St} {i : Nat} {r : Rec} (h : RecK P G ops C i r) : ∀ x, memN x r.wr = true → memN x r.fp = true := h.elim RecOk.sub fun h x hx => by rw [h.wr] at hx; simp [memN] at hx
theorem RecK.key {ops : Array Oper} {C : St} {i : Nat} {r : Rec} (h : RecK P G ops C i r) {x : Nat} (hl : lookN x r.ob ≠ none) : memN x r.wr = true ∨ (r.lo ≤ x ∧ x < r.hi) := by
  rcases h with h | h
  · obtain ⟨s2, _, _, _, _, _, hob2⟩ := h.does
    rw [hob2] at hl
    split at hl
    · assumption
    · exact absurd rfl hl
  · rw [h.ob] at hl; exact absurd rfl hl
/-- the one may come before the other or behind it -/
def indep (rj ri : Rec) : Bool :=
  (match rj.dst with | none => true | some d => !memN d ri.lk && (match ri.dst with | none => true | some e => !Nat.beq d e)) &&
  (match ri.dst with | none => true | some d => !memN d rj.lk) &&
  (rj.wr.all fun x => !memN x ri.fp) && (ri.wr.all fun x => !memN x rj.fp) && (ri.fp.all fun x => Nat.blt x rj.lo || Nat.ble rj.hi x)
theorem indep_spec {rj ri : Rec} (h : indep rj ri = true) :
    (∀ d, rj.dst = some d → memN d ri.lk = false ∧ ri.dst ≠ some d) ∧ (∀ d, ri.dst = some d → memN d rj.lk = false) ∧
    (∀ x, memN x rj.wr = true → memN x ri.fp = false) ∧ (∀ x, memN x ri.wr = true → memN x rj.fp = false) ∧ (∀ x, memN x ri.fp = true → x < rj.lo ∨ rj.hi ≤ x) := by
  simp only [indep, Bool.and_eq_true] at h
  obtain ⟨⟨⟨⟨h1, h2⟩, h3⟩, h4⟩, h5⟩ := h
  refine ⟨fun d hd => ?_, fun d hd => ?_, fun x hx => ?_, fun x hx => ?_, fun x hx => ?_⟩
  · rw [hd] at h1
    simp only [Bool.and_eq_true, Bool.not_eq_true'] at h1
    refine ⟨h1.1, fun he => ?_⟩
    rw [he] at h1
    simp at h1
  · rw [hd] at h2; simpa using h2
  · rw [List.all_eq_true] at h3; simpa using h3 x (memN_iff.1 hx)
  · rw [List.all_eq_true] at h4; simpa using h4 x (memN_iff.1 hx)
  · rw [List.all_eq_true] at h5
    have := h5 x (memN_iff.1 hx)
    simp only [Bool.or_eq_true] at this
    rcases this with h | h
    · exact .inl (Nat.le_of_ble_eq_true h)
    · exact .inr (Nat.le_of_ble_eq_true h)
def Cn (L : List Rec) (s0 : St) (i : Nat) : St := (L.take i).foldl (fun s r => appR r s) s0
theorem Cn_succ {L : List Rec} {s0 : St} {i : Nat} {r : Rec} (h : L[i]? = some r) : Cn L s0 (i + 1) = appR r (Cn L s0 i) := by
  unfold Cn
  rw [List.take_add_one, h]
  simp
theorem Cn_stF {L : List Rec} {s0 : St} {i : Nat} : Cn L s0 i = stF L 0 (fun j => decide (j < i)) s0 := by
  have := @stF_lt L 0 i s0
  simp only [Nat.zero_add] at this
  exact this.symm
/-- what is known of a whole run -/
structure RunOk (P : Program) (G : Nat → AV) (ops : Array Oper) (L : List Rec) (s0 : St) : Prop where
  len : L.length ≤ ops.size
  df : s0.df = []
  rcs : ∀ i r, L[i]? = some r → RecK P G ops (Cn L s0 i) i r
  ind : ∀ j i rj ri, j < i → L[j]? = some rj → L[i]? = some ri → Nat.testBit ri.anc j = false → indep rj ri = true
section
variable {ops : Array Oper} {L : List Rec} {s0 : St}
theorem RunOk.mono (h : RunOk P G ops L s0) : ∀ {i : Nat}, i ≤ L.length → (∀ j r, j < i → L[j]? = some r → r.hi ≤ (Cn L s0 i).hp.nx) ∧ s0.hp.nx ≤ (Cn L s0 i).hp.nx := by
  intro i
  induction i with
  | zero => intro _; exact ⟨fun j r hj => absurd hj (Nat.not_lt_zero j), by simp [Cn]⟩
  | succ i ih =>
    intro hi
    obtain ⟨r, hr⟩ : ∃ r, L[i]? = some r := ⟨L[i], by simp⟩
    obtain ⟨h1, h2⟩ := ih (by omega)
    have hk := h.rcs i r hr
    have hnx : (Cn L s0 (i + 1)).hp.nx = r.hi := by rw [Cn_succ hr]; rfl
    have hlo := hk.lo
    have hhi := hk.hi
    rw [hnx]
    refine ⟨fun j rj hj hrj => ?_, by omega⟩
    by_cases e : j = i
    · subst e; rw [hr] at hrj; cases hrj; exact Nat.le_refl _
    · have := h1 j rj (by omega) hrj
      omega
def stD (L : List Rec) (s0 : St) (D : Nat → Bool) : St := { stF L 0 D s0 with hp := ⟨(stF L 0 D s0).hp.m, (Cn L s0 L.length).hp.nx⟩ }
/-- those in D are carried out, whatever the order was -/
def Inv (G : Nat → AV) (n : Nat) (L : List Rec) (s0 : St) (μ0 : Nat → Option Loc) (ro0 : Nat → Prop) (w0 : World) (D : Nat → Bool) (a : Act) (w : World) : Prop :=
  ∃ μ ro, Up n μ0 ro0 w0 μ ro w ∧ StRel G μ ro w (stD L s0 D) a ∧ ∀ j r, L[j]? = some r → D j = false → ∀ x, r.lo ≤ x → x < r.hi → μ x = none
theorem put_getD_ne {a : Act} {dst : Option Tmp} {x : Value} {t : Tmp} (h : dst ≠ some t) : (a.put dst x).tmps.getD t undef = a.tmps.getD t undef := by
  cases dst with
  | none => rfl
  | some d =>
    have hne : d ≠ t := fun e => h (by rw [e])
    have e2 : (a.tmps.setIfInBounds d x)[t]? = a.tmps[t]? := Array.getElem?_setIfInBounds_ne hne
    show (a.tmps.setIfInBounds d x).getD t undef = a.tmps.getD t undef
    simp only [Array.getD_eq_getD_getElem?, e2]
theorem draw_move {n : Nat} {Q : Exit → Act → World → Prop} {μ0 : Nat → Option Loc} {ro0 : Nat → Prop} {w0 : World} (hrun : RunOk P G ops L s0) {D : Nat → Bool} {i : Nat} {r : Rec} {a : Act} {w : World}
    (hi : L[i]? = some r) (hk : MoveRec P ops (Cn L s0 i) i r) (hD : D i = false) (hanc : ∀ j, Nat.testBit r.anc j = true → D j = true) (hcl : ∀ j rj, L[j]? = some rj → D j = true → ∀ k, Nat.testBit rj.anc k = true → D k = true)
    (hinv : Inv G n L s0 μ0 ro0 w0 D a w) : wpOp P ops Q i (fun a' w' => Inv G n L s0 μ0 ro0 w0 (fun j => if j = i then true else D j) a' w') a w := by
  obtain ⟨μ, ro, hup, hst, hfr⟩ := hinv
  obtain ⟨o, t, d, v0, ho, hg, hod, hrd, htl, htv, hdn, hex⟩ := hk.op
  have before : ∀ j rj, j < i → L[j]? = some rj → D j = false → indep rj r = true := fun j rj hj hrj hd =>
    hrun.ind j i rj r hj hrj hi (by
      cases hb : Nat.testBit r.anc j with
      | false => rfl
      | true => have := hanc j hb; rw [hd] at this; cases this)
  have behind : ∀ j rj, i < j → L[j]? = some rj → D j = true → indep r rj = true := fun j rj hj hrj hd =>
    hrun.ind i j r rj hj hi hrj (by
      cases hb : Nat.testBit rj.anc i with
      | false => rfl
      | true => have := hcl j rj hrj hd i hb; rw [hD] at this; cases this)
  have htm : (stF L 0 D s0).tm.get t = some v0 := by
    rw [← htv, Cn_stF]
    refine stF_tm_congr (fun j rj hrj hdj => ?_) rfl
    rw [Nat.zero_add]
    rcases Nat.lt_trichotomy j i with hj | hj | hj
    · rw [decide_eq_true hj]
      cases hd : D j with
      | true => rfl
      | false =>
        have := (indep_spec (before j rj hj hrj hd)).1 t hdj
        rw [htl] at this; cases this.1
    · subst hj; rw [hD]; simp
    · rw [decide_eq_false (by omega)]
      cases hd : D j with
      | false => rfl
      | true =>
        have := (indep_spec (behind j rj hj hrj hd)).2.1 t hdj
        rw [htl] at this; cases this
  have htm2 : ∀ t, r.dst ≠ some t → (stF L 0 (fun j => if j = i then true else D j) s0).tm.get t = (stF L 0 D s0).tm.get t := fun t ht =>
    stF_tm_congr (fun j rj hrj hdj => by
      rw [Nat.zero_add]
      by_cases e : j = i
      · subst e; rw [hi] at hrj; cases hrj; exact absurd hdj ht
      · rw [if_neg e]) rfl
  have htm3 : (stF L 0 (fun j => if j = i then true else D j) s0).tm.get d = some r.v :=
    stF_tm_last (k := i) hi (by simp) hrd fun j rj hj hrj hd => by
      rw [Nat.zero_add, if_neg (by omega)] at hd
      intro he
      exact ((indep_spec (behind j rj hj hrj hd)).1 d hrd).2 he
  have hhp : ∀ x, (stF L 0 (fun j => if j = i then true else D j) s0).hp.m.get x = (stF L 0 D s0).hp.m.get x := fun x =>
    stF_hp_congr (fun j rj hrj hdj => by
      rw [Nat.zero_add]
      by_cases e : j = i
      · subst e; rw [hi] at hrj; cases hrj; rw [hk.ob] at hdj; exact absurd rfl hdj
      · rw [if_neg e]) rfl
  have hsz : d < a.tmps.size := by
    have := hst.nt
    rw [this]
    simp only [stD, stF_keep.1]
    have e : (Cn L s0 i).nt = s0.nt := by rw [Cn_stF]; exact stF_keep.1
    rw [← e]; exact hdn
  unfold wpOp
  rw [ho]
  simp only
  have hw : Region.wanted o (yielded ops a.tmps) = true := by simp [Region.wanted, hg]
  rw [hw, if_pos rfl]
  refine .inl ?_
  obtain ⟨y, hrunx, hy⟩ := hex μ ro w a.eval (hst.tm t v0 (by simp only [stD]; exact htm))
  show o.upon P a _ Q ((execOp a.eval o).run P w)
  rw [hrunx, Oper.upon_value, hod]
  refine ⟨μ, ro, hup, ⟨fun u v hv => ?_, ?_, ⟨fun x k hx => ?_, fun x y k l b c hx hy => ?_, fun x k b hx => ?_, hst.hp.lt, hst.hp.old, hst.hp.nx⟩, hst.gl, ?_⟩, fun j rj hrj hd x h1 h2 => ?_⟩
  · simp only [stD] at hv
    by_cases e : u = d
    · subst e
      rw [htm3] at hv
      cases hv
      have : (a.put (some u) y).tmps.getD u undef = y := by
        simp only [Act.put, Array.getD, Array.size_setIfInBounds, dif_pos hsz, Array.getInternal_eq_getElem, Array.getElem_setIfInBounds_self]
      rw [this]; exact hy
    · rw [htm2 u (by rw [hrd]; exact fun h => e (Option.some.inj h).symm)] at hv
      rw [put_getD_ne (fun h => e (Option.some.inj h).symm)]
      exact hst.tm u v (by simp only [stD]; exact hv)
  · have : (a.put (some d) y).tmps.size = a.tmps.size := by simp [Act.put]
    rw [this, hst.nt]
    simp only [stD, stF_keep.1]
  · exact hst.hp.obs x k (by simp only [stD] at hx ⊢; rw [← hhp]; exact hx)
  · exact hst.hp.inj x y k l b c (by simp only [stD] at hx ⊢; rw [← hhp]; exact hx) (by simp only [stD] at hy ⊢; rw [← hhp]; exact hy)
  · exact hst.hp.own x k b (by simp only [stD] at hx ⊢; rw [← hhp]; exact hx)
  · have := hst.df
    simp only [stD, stF_keep.2, hrun.df] at this ⊢
    exact this
  · by_cases e : j = i
    · subst e; simp at hd
    · simp only [if_neg e] at hd
      exact hfr j rj hrj hd x h1 h2
theorem draw_step {n : Nat} {Q : Exit → Act → World → Prop} {μ0 : Nat → Option Loc} {ro0 : Nat → Prop} {w0 : World} (hrun : RunOk P G ops L s0) (hn : n ≤ s0.hp.nx) {D : Nat → Bool} {i : Nat} {r : Rec} {a : Act} {w : World}
    (hi : L[i]? = some r) (hD : D i = false) (hanc : ∀ j, Nat.testBit r.anc j = true → D j = true) (hcl : ∀ j rj, L[j]? = some rj → D j = true → ∀ k, Nat.testBit rj.anc k = true → D k = true)
    (hinv : Inv G n L s0 μ0 ro0 w0 D a w) : wpOp P ops Q i (fun a' w' => Inv G n L s0 μ0 ro0 w0 (fun j => if j = i then true else D j) a' w') a w := by
  rcases hrun.rcs i r hi with hk | hmv
  rotate_left
  · exact draw_move hrun hi hmv hD hanc hcl hinv
  obtain ⟨μ, ro, hup, hst, hfr⟩ := hinv
  obtain ⟨s1, hdo, hdf1, hnx1, hdst1, hkeep, hob⟩ := hk.does
  have hlohi := hk.hi
  have hilt : i < L.length := (List.getElem?_eq_some_iff.1 hi).1
  -- the numbers
  have hi_lo : ∀ j rj, j < i → L[j]? = some rj → rj.hi ≤ r.lo := fun j rj hj hrj => by
    rw [hk.lo]; exact (hrun.mono (Nat.le_of_lt hilt)).1 j rj hj hrj
  have hlo_hi : ∀ j rj, i < j → L[j]? = some rj → r.hi ≤ rj.lo := fun j rj hj hrj => by
    rw [(hrun.rcs j rj hrj).lo]; exact (hrun.mono (Nat.le_of_lt (List.getElem?_eq_some_iff.1 hrj).1)).1 i r hj hi
  have h0lo : s0.hp.nx ≤ r.lo := by rw [hk.lo]; exact (hrun.mono (Nat.le_of_lt hilt)).2
  have hend : r.hi ≤ (Cn L s0 L.length).hp.nx := (hrun.mono (Nat.le_refl _)).1 i r hilt hi
  -- who touches what
  have key : ∀ {x : Nat} (j : Nat) (rj : Rec), L[j]? = some rj → lookN x rj.ob ≠ none → memN x rj.wr = true ∨ (rj.lo ≤ x ∧ x < rj.hi) := fun {x} j rj hrj hl => by
    exact (hrun.rcs j rj hrj).key hl
  have before : ∀ j rj, j < i → L[j]? = some rj → D j = false → indep rj r = true := fun j rj hj hrj hd =>
    hrun.ind j i rj r hj hrj hi (by
      cases hb : Nat.testBit r.anc j with
      | false => rfl
      | true => have := hanc j hb; rw [hd] at this; cases this)
  have behind : ∀ j rj, i < j → L[j]? = some rj → D j = true → indep r rj = true := fun j rj hj hrj hd =>
    hrun.ind i j r rj hj hi hrj (by
      cases hb : Nat.testBit rj.anc i with
      | false => rfl
      | true => have := hcl j rj hrj hd i hb; rw [hD] at this; cases this)
  -- the temporaries and the blocks that it looks at are as they are in the first order
  have htm : ∀ t, memN t r.lk = true → (stF L 0 D s0).tm.get t = (Cn L s0 i).tm.get t := fun t ht => by
    rw [Cn_stF]
    refine stF_tm_congr (fun j rj hrj hdj => ?_) rfl
    rw [Nat.zero_add]
    rcases Nat.lt_trichotomy j i with hj | hj | hj
    · rw [decide_eq_true hj]
      cases hd : D j with
      | true => rfl
      | false =>
        have := (indep_spec (before j rj hj hrj hd)).1 t hdj
        rw [ht] at this; cases this.1
    · subst hj; rw [hD]; simp
    · rw [decide_eq_false (by omega)]
      cases hd : D j with
      | false => rfl
      | true =>
        have := (indep_spec (behind j rj hj hrj hd)).2.1 t hdj
        rw [ht] at this; cases this
  have hhp : ∀ x, memN x r.fp = true → (stF L 0 D s0).hp.m.get x = (Cn L s0 i).hp.m.get x := fun x hx => by
    rw [Cn_stF]
    have hxlo := (okH_get hk.hp hx).1
    refine stF_hp_congr (fun j rj hrj hlj => ?_) rfl
    rw [Nat.zero_add]
    have hkey := key (x := x) j rj hrj hlj
    rcases Nat.lt_trichotomy j i with hj | hj | hj
    · rw [decide_eq_true hj]
      cases hd : D j with
      | true => rfl
      | false =>
        obtain ⟨_, _, h3, _, h5⟩ := indep_spec (before j rj hj hrj hd)
        rcases hkey with h | h
        · have := h3 x h; rw [hx] at this; cases this
        · have := h5 x hx; omega
    · subst hj; rw [hD]; simp
    · rw [decide_eq_false (by omega)]
      cases hd : D j with
      | false => rfl
      | true =>
        obtain ⟨_, _, _, h4, _⟩ := indep_spec (behind j rj hj hrj hd)
        rcases hkey with h | h
        · have := h4 x h; rw [hx] at this; cases this
        · have := hlo_hi j rj hj hrj; omega
  -- the numbers that it may touch
  let μr : Nat → Option Loc := fun x => if memN x r.fp = true then μ x else none
  have hμr : ∀ x, memN x r.fp = true → μr x = μ x := fun x hx => if_pos hx
  have hμr_le : ∀ x b, μr x = some b → memN x r.fp = true ∧ μ x = some b := fun x b h => by
    by_cases hx : memN x r.fp = true
    · exact ⟨hx, by rw [← hμr x hx]; exact h⟩
    · simp only [μr, if_neg hx] at h; cases h
  have hent : ∀ x, memN x r.fp = true → ∃ k, (stF L 0 D s0).hp.m.get x = some k := fun x hx => by
    obtain ⟨_, k, hk', _⟩ := okH_get hk.hp hx
    exact ⟨k, (hhp x hx).trans hk'⟩
  have hst1 : StRel G μr ro w ⟨restT (Cn L s0 i).tm r.lk, (Cn L s0 i).nt, ⟨restT (Cn L s0 i).hp.m r.fp, r.lo⟩, []⟩ a := by
    refine ⟨fun t v ht => ?_, ?_, ⟨fun x k hx => ?_, fun x y k l b c hx hy hbx hby e => ?_, fun x k b hx hb => ?_, fun x b hb => ?_, hst.hp.old, fun x hx => ?_⟩, hst.gl.any, ?_⟩
    · simp only [restT_get] at ht
      split at ht
      · rename_i hl
        exact inN_rep hμr 6 (hst.tm t v ((htm t hl).trans ht)) (okT_get hk.tm hl ht)
      · cases ht
    · have := hst.nt
      rw [this]
      simp only [stD, stF_keep.1, Cn_stF]
    · simp only [restT_get] at hx
      split at hx
      · rename_i hl
        rcases hst.hp.obs x k ((hhp x hl).trans hx) with ⟨b, hb, hob⟩ | ⟨q1, q2, q3⟩
        rotate_left
        · exact .inr ⟨(hμr x hl).trans q1, q2, (okH_get hk.hp hl).1⟩
        refine .inl ⟨b, (hμr x hl).trans hb, ?_⟩
        obtain ⟨_, k', hk', hok, hmie, hlp, hmst⟩ := okH_get hk.hp hl
        rw [hx] at hk'
        cases hk'
        cases k with
        | iter s pos => exact hob
        | map kd es => obtain ⟨ms, cl, p, h1, h2, h3, h4⟩ := hob; exact ⟨ms, cl, p, h1, h2, h3.any_mu, h4⟩
        | rm m kd es ms cl => obtain ⟨h0, h1, h3, h4⟩ := hob; exact ⟨h0, h1, h3.any_mu, h4⟩
        | mit m a b c => exact hob
        | mie id => exact absurd rfl (hmie id)
        | lp bz tm nt ps as bd => exact absurd rfl (hlp bz tm nt ps as bd)
        | dfr => exact hob
        | mst i kd es y => exact absurd rfl (hmst i kd es y)
        | blk kb =>
          obtain ⟨cs, fr, g1, g0, g2, g3, g4, g5⟩ := hob.get
          refine ⟨⟨cs, fr, g1, g0, g2, g3, g4, fun j hj => ?_⟩⟩
          rcases hok kb rfl with hp | hp
          · have := g5 j hj
            rw [hp] at this ⊢
            exact Rep.any_mu this
          · exact inN_rep hμr 6 (g5 j hj) (all_get hp hj)
      · cases hx
    · simp only [restT_get] at hx hy
      split at hx
      · split at hy
        · rename_i h1 h2
          exact hst.hp.inj x y k l b c ((hhp x h1).trans hx) ((hhp y h2).trans hy) (hμr_le x b hbx).2 (hμr_le y c hby).2 e
        · cases hy
      · cases hx
    · simp only [restT_get] at hx
      split at hx
      · rename_i h1
        exact hst.hp.own x k b ((hhp x h1).trans hx) (hμr_le x b hb).2
      · cases hx
    · exact hst.hp.lt x b (hμr_le x b hb).2
    · have : ¬ memN x r.fp = true := fun h => by have := (okH_get hk.hp h).1; simp only at hx; omega
      exact if_neg this
    · have := hst.df
      simp only [stD, stF_keep.2, hrun.df] at this
      cases hq : a.defers with
      | nil => trivial
      | cons x y => rw [hq] at this; exact this.elim
  refine hdo μr ro a w Q _ hst1 fun μ' ro' a' w' hup' hst' => ⟨fun _ hput => ?_, fun v x hv => by cases hv⟩
  -- the numbers from here on
  let μ2 : Nat → Option Loc := fun x => if r.lo ≤ x ∧ x < r.hi then μ' x else μ x
  have hμ2 : ∀ x b, μ x = some b → μ2 x = some b := fun x b hb => by
    by_cases hx : r.lo ≤ x ∧ x < r.hi
    · have := hfr i r hi hD x hx.1 hx.2
      rw [this] at hb; cases hb
    · simp only [μ2, if_neg hx]; exact hb
  have hμ'_lt : ∀ x, x < r.lo → μ' x = μr x := fun x hx => hup'.ag x hx
  have hμ'2 : ∀ x b, μ' x = some b → μ2 x = some b := fun x b hb => by
    by_cases hx : r.lo ≤ x ∧ x < r.hi
    · simp only [μ2, if_pos hx]; exact hb
    · simp only [μ2, if_neg hx]
      by_cases hx' : x < r.lo
      · rw [hμ'_lt x hx'] at hb; exact (hμr_le x b hb).2
      · have := hst'.hp.nx x (by rw [hnx1]; omega)
        rw [this] at hb; cases hb
  have hblk : ∀ b, ro b → w'.heap[b]? = w.heap[b]? := hup'.fr.block
  have hold : ∀ {x : Nat} {k : Ob} {b : Loc}, (stF L 0 D s0).hp.m.get x = some k → memN x r.fp = false → μ x = some b → w'.heap[b.1]? = w.heap[b.1]? := fun {x k b} hx hf hb =>
    hup'.fr.rest b.1 (hst.hp.lt x b hb) fun y l hy e => by
      obtain ⟨h1, h2⟩ := hμr_le y l hy
      obtain ⟨k', hk'⟩ := hent y h1
      have := hst.hp.inj y x k' k l b hk' hx h2 hb e
      rw [← this, h1] at hf; cases hf
  -- what the others' words are worth
  have htm2 : ∀ t, r.dst ≠ some t → (stF L 0 (fun j => if j = i then true else D j) s0).tm.get t = (stF L 0 D s0).tm.get t := fun t ht =>
    stF_tm_congr (fun j rj hrj hdj => by
      rw [Nat.zero_add]
      by_cases e : j = i
      · subst e; rw [hi] at hrj; cases hrj; exact absurd hdj ht
      · rw [if_neg e]) rfl
  have htm3 : ∀ t, r.dst = some t → (stF L 0 (fun j => if j = i then true else D j) s0).tm.get t = some r.v := fun t ht =>
    stF_tm_last (k := i) hi (by simp) ht fun j rj hj hrj hd => by
      rw [Nat.zero_add, if_neg (by omega)] at hd
      intro he
      exact ((indep_spec (behind j rj hj hrj hd)).1 t ht).2 he
  have hhp2 : ∀ x, lookN x r.ob = none → (stF L 0 (fun j => if j = i then true else D j) s0).hp.m.get x = (stF L 0 D s0).hp.m.get x := fun x hx =>
    stF_hp_congr (fun j rj hrj hdj => by
      rw [Nat.zero_add]
      by_cases e : j = i
      · subst e; rw [hi] at hrj; cases hrj; exact absurd hx hdj
      · rw [if_neg e]) rfl
  have hhp3 : ∀ x o, lookN x r.ob = some o → (stF L 0 (fun j => if j = i then true else D j) s0).hp.m.get x = o := fun x o hx =>
    stF_hp_last (k := i) hi (by simp) hx fun j rj hj hrj hd => by
      rw [Nat.zero_add, if_neg (by omega)] at hd
      cases hl : lookN x rj.ob with
      | none => rfl
      | some o' =>
        have h1 := key (x := x) j rj hrj (by rw [hl]; simp)
        have h2 := key (x := x) i r hi (by rw [hx]; simp)
        obtain ⟨_, _, h3, h4, h5⟩ := indep_spec (behind j rj hj hrj hd)
        have h6 := hlo_hi j rj hj hrj
        have h7 := (hrun.rcs j rj hrj).hi
        exfalso
        rcases h1 with h1 | h1 <;> rcases h2 with h2 | h2
        · have := h3 x h2; rw [(hrun.rcs j rj hrj).sub x h1] at this; cases this
        · have := h5 x ((hrun.rcs j rj hrj).sub x h1); omega
        · have := (okH_get hk.hp (hk.sub x h2)).1; omega
        · omega
  -- an entry of the new heap: the operation's, or the old one
  have hentry : ∀ x k, (stF L 0 (fun j => if j = i then true else D j) s0).hp.m.get x = some k →
      (s1.hp.m.get x = some k ∧ (memN x r.fp = true ∨ (r.lo ≤ x ∧ x < r.hi))) ∨ ((stF L 0 D s0).hp.m.get x = some k ∧ memN x r.fp = false ∧ ¬ (r.lo ≤ x ∧ x < r.hi)) := fun x k hx => by
    cases hl : lookN x r.ob with
    | some o =>
      rw [hhp3 x o hl] at hx
      have h1 := key (x := x) i r hi (by rw [hl]; simp)
      rw [hob, if_pos h1] at hl
      simp only [Option.some.injEq] at hl
      refine .inl ⟨hl.trans hx, ?_⟩
      rcases h1 with h | h
      · exact .inl (hk.sub x h)
      · exact .inr h
    | none =>
      rw [hhp2 x hl] at hx
      have hnot : ¬ (memN x r.wr = true ∨ (r.lo ≤ x ∧ x < r.hi)) := fun h => by
        rw [hob, if_pos h] at hl
        cases hl
      cases hf : memN x r.fp with
      | true =>
        refine .inl ⟨?_, .inl rfl⟩
        rw [hkeep x hf (by cases hw : memN x r.wr with | false => rfl | true => exact absurd (.inl hw) hnot), ← hhp x hf]
        exact hx
      | false => exact .inr ⟨hx, rfl, fun h => hnot (.inr h)⟩
  -- an old block and a new one do not meet
  have hmeet : ∀ x y k kx l b c, (stF L 0 D s0).hp.m.get x = some k → (stF L 0 (fun j => if j = i then true else D j) s0).hp.m.get x = some kx → μ x = some b → s1.hp.m.get y = some l → r.lo ≤ y → y < r.hi → μ' y = some c → b.1 ≠ c.1 := fun x y k kx l b c hx hx' hbx hy h1 h2 hc e => by
    rcases hup'.fr.new y c hc with ⟨j, m, hj, hm⟩ | h
    · obtain ⟨g1, g2⟩ := hμr_le j m hj
      obtain ⟨kj, hkj⟩ := hent j g1
      have hxj := hst.hp.inj x j k kj b m hx hkj hbx g2 (e.trans hm.symm)
      subst hxj
      have hlt := (okH_get hk.hp g1).1
      rcases hentry x kx hx' with ⟨h3, _⟩ | ⟨_, h3, _⟩
      · have hx2 : μ' x = some b := by rw [hμ'_lt x hlt, hμr x g1]; exact hbx
        have := hst'.hp.inj x y kx l b c h3 hy hx2 hc e
        omega
      · rw [g1] at h3; cases h3
    · have := hst.hp.lt x b hbx
      omega
  have hnodup : ∀ x k, (stF L 0 D s0).hp.m.get x = some k → ∀ b, μ2 x = some b → ¬ (r.lo ≤ x ∧ x < r.hi) → μ x = some b := fun x k hx b hb hnot => by
    simp only [μ2, if_neg hnot] at hb; exact hb
  have hnone : ∀ x, (memN x r.fp = true ∨ (r.lo ≤ x ∧ x < r.hi)) → μ' x = none → μ2 x = none := fun x h2 q1 => by
    by_cases hr : r.lo ≤ x ∧ x < r.hi
    · simp only [μ2, if_pos hr]; exact q1
    · simp only [μ2, if_neg hr]
      rcases h2 with h2 | h2
      · rw [hμ'_lt x (okH_get hk.hp h2).1, hμr x h2] at q1; exact q1
      · exact absurd h2 hr
  refine ⟨μ2, ro', hup.trans ⟨fun x hx => ?_, hup'.up, fun b hb => (hup'.nw b hb).imp_right (Or.imp_right fun ⟨i, l, q1, q2⟩ => ⟨i, l, (hμr_le i l q1).2, q2⟩), ⟨hup'.fr.os, hup'.fr.tape, hup'.fr.output, hup'.fr.size, hblk, fun b hb hno => hup'.fr.rest b hb fun x l hx => hno x l (hμr_le x l hx).2, fun x l hx => ?_⟩⟩, ⟨fun t v ht => ?_, ?_, ⟨fun x k hx => ?_, fun x y k l b c hx hy hbx hby e => ?_, fun x k b hx hb => ?_, fun x b hb => ?_, hst'.hp.old, fun x hx => ?_⟩, hst'.gl.any, ?_⟩, fun j rj hrj hd x h1 h2 => ?_⟩
  · have : ¬ (r.lo ≤ x ∧ x < r.hi) := by omega
    simp only [μ2, if_neg this]
  · by_cases hx' : r.lo ≤ x ∧ x < r.hi
    · simp only [μ2, if_pos hx'] at hx
      rcases hup'.fr.new x l hx with ⟨j, m, hj, hm⟩ | h
      · exact .inl ⟨j, m, (hμr_le j m hj).2, hm⟩
      · exact .inr h
    · simp only [μ2, if_neg hx'] at hx
      exact .inl ⟨x, l, hx, rfl⟩
  · simp only [stD] at ht
    by_cases hd : r.dst = some t
    · rw [htm3 t hd] at ht
      simp only [Option.some.injEq] at ht
      subst ht
      exact (hst'.tm t r.v (hdst1 t hd)).mono hμ'2 (fun _ h => h) (fun _ _ => rfl)
    · rw [htm2 t hd] at ht
      obtain ⟨o, ho, hdo'⟩ := hk.op
      obtain ⟨x, hx⟩ := hput o ho
      rw [hx, put_getD_ne (by rw [← hdo']; exact hd)]
      exact (hst.tm t v ht).mono hμ2 hup'.up hblk
  · obtain ⟨o, ho, hdo'⟩ := hk.op
    obtain ⟨x, hx⟩ := hput o ho
    rw [hx]
    have : (a.put o.dst x).tmps.size = a.tmps.size := by cases o.dst <;> simp [Act.put]
    rw [this, hst.nt]
    simp only [stD, stF_keep.1]
  · simp only [stD] at hx
    rcases hentry x k hx with ⟨h1, h2⟩ | ⟨h1, h2, h3⟩
    · rcases hst'.hp.obs x k h1 with ⟨b, hb, hob'⟩ | ⟨q1, q2, q3⟩
      · exact .inl ⟨b, hμ'2 x b hb, hob'.mono hμ'2 (fun _ h => h) (fun _ _ => rfl) rfl⟩
      · exact .inr ⟨hnone x h2 q1, q2, by rw [hnx1] at q3; exact Nat.lt_of_lt_of_le q3 hend⟩
    · rcases hst.hp.obs x k h1 with ⟨b, hb, hob'⟩ | ⟨q1, q2, q3⟩
      · exact .inl ⟨b, hμ2 x b hb, hob'.mono hμ2 hup'.up hblk (hold h1 h2 hb)⟩
      · exact .inr ⟨by simp only [μ2, if_neg h3]; exact q1, q2, q3⟩
  · simp only [stD] at hx hy
    -- where each lies
    have cls : ∀ x k b, (stF L 0 (fun j => if j = i then true else D j) s0).hp.m.get x = some k → μ2 x = some b →
        (∃ k', (stF L 0 D s0).hp.m.get x = some k' ∧ (stF L 0 (fun j => if j = i then true else D j) s0).hp.m.get x = some k ∧ μ x = some b) ∨ (s1.hp.m.get x = some k ∧ (r.lo ≤ x ∧ x < r.hi) ∧ μ' x = some b) := fun x k b hx hb => by
      rcases hentry x k hx with ⟨h1, h2⟩ | ⟨h1, h2, h3⟩
      · by_cases hr : r.lo ≤ x ∧ x < r.hi
        · simp only [μ2, if_pos hr] at hb
          exact .inr ⟨h1, hr, hb⟩
        · rcases h2 with h2 | h2
          · obtain ⟨k', hk'⟩ := hent x h2
            simp only [μ2, if_neg hr] at hb
            exact .inl ⟨k', hk', hx, hb⟩
          · exact absurd h2 hr
      · simp only [μ2, if_neg h3] at hb
        exact .inl ⟨k, h1, hx, hb⟩
    rcases cls x k b hx hbx with ⟨k1, g1, g4, g2⟩ | ⟨g1, g2, g3⟩ <;> rcases cls y l c hy hby with ⟨k2, f1, f4, f2⟩ | ⟨f1, f2, f3⟩
    · exact hst.hp.inj x y k1 k2 b c g1 f1 g2 f2 e
    · exact absurd e (hmeet x y k1 k l b c g1 g4 g2 f1 f2.1 f2.2 f3)
    · exact absurd e.symm (hmeet y x k2 l k c b f1 f4 f2 g1 g2.1 g2.2 g3)
    · exact hst'.hp.inj x y k l b c g1 f1 g3 f3 e
  · simp only [stD] at hx
    rcases hentry x k hx with ⟨h1, h2⟩ | ⟨h1, h2, h3⟩
    · rcases hst'.hp.obs x k h1 with ⟨b', hb', _⟩ | ⟨q1, q2, q3⟩
      rotate_left
      · rw [hnone x h2 q1] at hb; cases hb
      have := hμ'2 x b' hb'
      rw [hb] at this
      cases this
      exact hst'.hp.own x k b h1 hb'
    · simp only [μ2, if_neg h3] at hb
      intro hro
      rcases hup'.nw b.1 hro with h | h | ⟨y, l, hy, e⟩
      rotate_right
      · obtain ⟨f1, f2⟩ := hμr_le y l hy
        obtain ⟨k', hk'⟩ := hent y f1
        have := hst.hp.inj y x k' k l b hk' h1 f2 hb e
        rw [this] at f1; rw [f1] at h2; cases h2
      · exact hst.hp.own x k b h1 hb h
      · have := hst.hp.lt x b hb; omega
  · by_cases hr : r.lo ≤ x ∧ x < r.hi
    · simp only [μ2, if_pos hr] at hb; exact hst'.hp.lt x b hb
    · simp only [μ2, if_neg hr] at hb; exact Nat.lt_of_lt_of_le (hst.hp.lt x b hb) hup'.fr.size
  · simp only [stD] at hx
    have : ¬ (r.lo ≤ x ∧ x < r.hi) := by omega
    simp only [μ2, if_neg this]
    exact hst.hp.nx x hx
  · have := hst'.df
    simp only [stD, stF_keep.2, hrun.df]
    rw [hdf1] at this
    cases hq : a'.defers with
    | nil => trivial
    | cons x y => rw [hq] at this; exact this.elim
  · by_cases e : j = i
    · subst e; simp at hd
    · simp only [if_neg e] at hd
      have h3 := hfr j rj hrj hd x h1 h2
      have : ¬ (r.lo ≤ x ∧ x < r.hi) := fun h4 => by
        rcases Nat.lt_or_gt_of_ne e with h | h
        · have := hi_lo j rj h hrj; omega
        · have := hlo_hi j rj h hrj; omega
      simp only [μ2, if_neg this]
      exact h3
end
end Go.Proofs.YtnlaiahcemckkaaGreatDoor.Av
