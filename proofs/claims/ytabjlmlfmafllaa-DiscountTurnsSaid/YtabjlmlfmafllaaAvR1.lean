/- Regions whose operations may be carried out in many orders: lists and footprints. -/
import Derived.Test.YtabjlmlfmafllaaAvQ
set_option linter.unusedVariables false
set_option linter.unusedSimpArgs false
namespace Go.Proofs.Ytabjlmlfmafllaa.Av
open Go.RowKit

variable {P : Program} {G : Nat → AV} {μ μ' : Nat → Option Loc} {ro ro' : Nat → Prop} {w w' : World}

/-- the numbers that a value shows -/
def idsN : Nat → AV → List Nat
  | 0, v => match v with | .ptr id _ => [id] | .sl id _ _ _ _ _ => [id] | .vec id _ _ => [id] | _ => []
  | k + 1, v => match v with | .ptr id _ => [id] | .sl id _ _ _ _ _ => [id] | .vec id _ _ => [id] | .agg c => c.flatMap (idsN k) | .tup c => c.flatMap (idsN k) | .fn _ a c => a.flatMap (idsN k) ++ c.flatMap (idsN k) | .ifc _ v => idsN k v | _ => []
/-- are they all among these? -/
def inN (fp : List Nat) : Nat → AV → Bool
  | 0, v => match v with | .ptr id _ => memN id fp | .sl id _ _ _ _ _ => memN id fp | .vec id _ _ => memN id fp | .agg _ => false | .tup _ => false | .fn _ _ _ => false | .ifc _ _ => false | _ => true
  | k + 1, v => match v with | .ptr id _ => memN id fp | .sl id _ _ _ _ _ => memN id fp | .vec id _ _ => memN id fp | .agg c => c.all (inN fp k) | .tup c => c.all (inN fp k) | .fn _ a c => a.all (inN fp k) && c.all (inN fp k) | .ifc _ v => inN fp k v | _ => true

theorem inN_rep {fp : List Nat} (hμ : ∀ i, memN i fp = true → μ' i = μ i) : ∀ (k : Nat) {o : Bool} {v : AV} {x : Value}, Rep μ ro w o v x → inN fp k v = true → Rep μ' ro w o v x
  | 0, o, v, x, h, hp => by
    cases h with
    | any => exact .any
    | bool => exact .bool
    | int => exact .int
    | str h => exact .str h
    | ptr h => exact .ptr ((hμ _ hp).trans h)
    | nilp => exact .nilp
    | rop vs hb hc hr => exact .rop vs hb hc fun i hi => (hr i hi).any_mu
    | sl h h1 h2 h3 => exact .sl ((hμ _ hp).trans h) h1 h2 h3
    | vec h h1 h3 => exact .vec ((hμ _ hp).trans h) h1 h3
    | vecn => exact .vecn
    | lst vs hb hc hr hn => exact .lst vs hb hc (fun i hi => (hr i hi).any_mu) hn
    | lstn => exact .lstn
    | nils => exact .nils
    | nen => exact .nen
    | agg hn hr => cases hp
    | tup hn hr => cases hp
    | fn hn hr hm hs => cases hp
    | nilf => exact .nilf
    | ifc h => cases hp
    | nili => exact .nili
  | k + 1, o, v, x, h, hp => by
    cases h with
    | any => exact .any
    | bool => exact .bool
    | int => exact .int
    | str h => exact .str h
    | ptr h => exact .ptr ((hμ _ hp).trans h)
    | nilp => exact .nilp
    | rop vs hb hc hr => exact .rop vs hb hc fun i hi => (hr i hi).any_mu
    | sl h h1 h2 h3 => exact .sl ((hμ _ hp).trans h) h1 h2 h3
    | vec h h1 h3 => exact .vec ((hμ _ hp).trans h) h1 h3
    | vecn => exact .vecn
    | lst vs hb hc hr hn => exact .lst vs hb hc (fun i hi => (hr i hi).any_mu) hn
    | lstn => exact .lstn
    | nils => exact .nils
    | nen => exact .nen
    | agg hn hr => exact .agg hn fun i hi => inN_rep hμ k (hr i hi) (all_get hp hi)
    | tup hn hr => exact .tup hn fun i hi => inN_rep hμ k (hr i hi) (all_get hp hi)
    | fn hn hr hm hs =>
      simp only [inN, Bool.and_eq_true] at hp
      exact .fn hn (fun i hi => inN_rep hμ k (hr i hi) (all_get hp.1 hi)) hm (fun i hi => inN_rep hμ k (hs i hi) (all_get hp.2 hi))
    | nilf => exact .nilf
    | ifc h => exact .ifc (inN_rep hμ k h hp)
    | nili => exact .nili

/-- a trie, of these numbers only -/
def restT {α : Type} (t : Tr α) : List Nat → Tr α
  | [] => .e
  | x :: l => match t.get x with | some v => (restT t l).put x (some v) | none => restT t l
theorem restT_get {α : Type} {t : Tr α} {x : Nat} : ∀ {l : List Nat}, (restT t l).get x = if memN x l = true then t.get x else none
  | [] => by simp [restT, memN, Tr.get]
  | y :: l => by
    simp only [restT, memN_cons]
    by_cases e : x = y
    · subst e
      split
      · rename_i v hv; simp [Tr.get_put, hv]
      · rename_i hv; rw [restT_get]; simp [hv]
    · rw [if_neg e]
      split
      · rw [Tr.get_put, if_neg e, restT_get]
      · exact restT_get

/-- what can be reached -/
def reach (m : Tr Ob) : Nat → List Nat → List Nat → List Nat
  | 0, _, seen => seen
  | _ + 1, [], seen => seen
  | f + 1, x :: l, seen =>
    match memN x seen with
    | true => reach m f l seen
    | false =>
      match m.get x with
      | some (.blk k) => match k.pl with | true => reach m f l (x :: seen) | false => reach m f (k.c.flatMap (idsN 6) ++ l) (x :: seen)
      | some _ => reach m f l (x :: seen)
      | none => reach m f l seen

def okT (tm : Tr AV) (fp : List Nat) (lk : List Nat) : Bool := lk.all fun t => match tm.get t with | some v => inN fp 6 v | none => true
def okH (m : Tr Ob) (nx : Nat) (fp : List Nat) : Bool :=
  fp.all fun x => match m.get x with | some (.blk k) => Nat.blt x nx && (k.pl || k.c.all (inN fp 6)) | some (.iter _ _) => Nat.blt x nx | none => false

theorem okT_get {tm : Tr AV} {fp lk : List Nat} (h : okT tm fp lk = true) {t : Nat} (ht : memN t lk = true) {v : AV} (hv : tm.get t = some v) : inN fp 6 v = true := by
  unfold okT at h
  rw [List.all_eq_true] at h
  have := h t (memN_iff.1 ht)
  rw [hv] at this
  exact this
theorem okH_get {m : Tr Ob} {nx : Nat} {fp : List Nat} (h : okH m nx fp = true) {x : Nat} (hx : memN x fp = true) :
    x < nx ∧ ∃ k, m.get x = some k ∧ ∀ b, k = .blk b → b.pl = true ∨ b.c.all (inN fp 6) = true := by
  unfold okH at h
  rw [List.all_eq_true] at h
  have := h x (memN_iff.1 hx)
  split at this
  · rename_i k hk
    simp only [Bool.and_eq_true, Bool.or_eq_true] at this
    exact ⟨Nat.le_of_ble_eq_true this.1, _, hk, fun b hb => by cases hb; exact this.2⟩
  · rename_i hk
    exact ⟨Nat.le_of_ble_eq_true this, _, hk, fun b hb => by cases hb⟩
  · cases this

/-- what an operation did -/
structure Rec where
  dst : Option Tmp
  lk : List Nat
  v : AV
  lo : Nat
  hi : Nat
  fp : List Nat
  wr : List Nat
  ob : List (Nat × Option Ob)
  anc : Nat

def lookN (x : Nat) : List (Nat × Option Ob) → Option (Option Ob)
  | [] => none
  | (y, o) :: l => match Nat.beq x y with | true => some o | false => lookN x l
theorem lookN_cons {x y : Nat} {o : Option Ob} {l : List (Nat × Option Ob)} : lookN x ((y, o) :: l) = if x = y then some o else lookN x l := by
  show (match Nat.beq x y with | true => some o | false => lookN x l) = _
  cases h : Nat.beq x y with
  | true => rw [if_pos (Nat.eq_of_beq_eq_true h)]
  | false => rw [if_neg (Nat.ne_of_beq_eq_false h)]
def putObs : List (Nat × Option Ob) → Tr Ob → Tr Ob
  | [], m => m
  | (y, o) :: l, m => (putObs l m).put y o
theorem putObs_get {x : Nat} {m : Tr Ob} : ∀ {l : List (Nat × Option Ob)}, (putObs l m).get x = match lookN x l with | some o => o | none => m.get x
  | [] => rfl
  | (y, o) :: l => by
    simp only [putObs, lookN, Tr.get_put]
    cases h : Nat.beq x y with
    | true => rw [if_pos (Nat.eq_of_beq_eq_true h)]
    | false => rw [if_neg (Nat.ne_of_beq_eq_false h)]; exact putObs_get
def obL (m : Tr Ob) : List Nat → List (Nat × Option Ob)
  | [] => []
  | x :: l => (x, m.get x) :: obL m l
theorem obL_look {m : Tr Ob} {x : Nat} : ∀ {l : List Nat}, lookN x (obL m l) = if memN x l = true then some (m.get x) else none
  | [] => by simp [obL, lookN, memN]
  | y :: l => by
    simp only [obL, lookN_cons, memN_cons]
    by_cases e : x = y
    · subst e
      simp
    · rw [if_neg e, if_neg e]
      exact obL_look

def appR (r : Rec) (s : St) : St := { s with tm := (match r.dst with | none => s.tm | some d => s.tm.put d (some r.v)), hp := ⟨putObs r.ob s.hp.m, r.hi⟩ }

/-- those in D, one behind the other -/
def stF : List Rec → Nat → (Nat → Bool) → St → St
  | [], _, _, s => s
  | r :: l, i, D, s => stF l (i + 1) D (match D i with | true => appR r s | false => s)

theorem appR_tm {r : Rec} {s : St} {t : Nat} : (appR r s).tm.get t = if r.dst = some t then some r.v else s.tm.get t := by
  unfold appR
  cases hd : r.dst with
  | none => simp
  | some d => simp only [Tr.get_put, Option.some.injEq]; by_cases e : t = d <;> simp [e]; intro h; exact absurd h.symm e
theorem appR_hp {r : Rec} {s : St} {x : Nat} : (appR r s).hp.m.get x = match lookN x r.ob with | some o => o | none => s.hp.m.get x := by
  unfold appR
  exact putObs_get

theorem stF_keep {l : List Rec} : ∀ {i : Nat} {D : Nat → Bool} {s : St}, (stF l i D s).nt = s.nt ∧ (stF l i D s).df = s.df := by
  induction l with
  | nil => intro i D s; exact ⟨rfl, rfl⟩
  | cons r l ih =>
    intro i D s
    simp only [stF]
    have := @ih (i + 1) D (match D i with | true => appR r s | false => s)
    rw [this.1, this.2]
    cases D i <;> exact ⟨rfl, rfl⟩

theorem stF_tm_congr {t : Nat} : ∀ {l : List Rec} {i : Nat} {D D' : Nat → Bool} {s s' : St}, (∀ k r, l[k]? = some r → r.dst = some t → D (i + k) = D' (i + k)) → s.tm.get t = s'.tm.get t → (stF l i D s).tm.get t = (stF l i D' s').tm.get t
  | [], i, D, D', s, s', _, h => h
  | r :: l, i, D, D', s, s', hk, h => by
    simp only [stF]
    refine stF_tm_congr (fun k r' hr hd => ?_) ?_
    · have := hk (k + 1) r' (by simpa using hr) hd
      rw [show i + 1 + k = i + (k + 1) by omega]; exact this
    · by_cases hd : r.dst = some t
      · have := hk 0 r (by simp) hd
        simp only [Nat.add_zero] at this
        rw [this]
        cases D' i
        · exact h
        · simp only [appR_tm, if_pos hd]
      · cases D i <;> cases D' i <;> simp only [appR_tm, if_neg hd, h]
theorem stF_hp_congr {x : Nat} : ∀ {l : List Rec} {i : Nat} {D D' : Nat → Bool} {s s' : St}, (∀ k r, l[k]? = some r → lookN x r.ob ≠ none → D (i + k) = D' (i + k)) → s.hp.m.get x = s'.hp.m.get x → (stF l i D s).hp.m.get x = (stF l i D' s').hp.m.get x
  | [], i, D, D', s, s', _, h => h
  | r :: l, i, D, D', s, s', hk, h => by
    simp only [stF]
    refine stF_hp_congr (fun k r' hr hd => ?_) ?_
    · have := hk (k + 1) r' (by simpa using hr) hd
      rw [show i + 1 + k = i + (k + 1) by omega]; exact this
    · cases hd : lookN x r.ob with
      | some o =>
        have := hk 0 r (by simp) (by rw [hd]; simp)
        simp only [Nat.add_zero] at this
        rw [this]
        cases D' i
        · exact h
        · simp only [appR_hp, hd]
      | none => cases D i <;> cases D' i <;> simp only [appR_hp, hd, h]
/-- the last word -/
theorem stF_tm_last {t : Nat} : ∀ {l : List Rec} {i k : Nat} {D : Nat → Bool} {s : St} {r : Rec}, l[k]? = some r → D (i + k) = true → r.dst = some t →
    (∀ k' r', k < k' → l[k']? = some r' → D (i + k') = true → r'.dst ≠ some t) → (stF l i D s).tm.get t = some r.v
  | [], i, k, D, s, r, h, _, _, _ => by simp at h
  | r0 :: l, i, 0, D, s, r, h, hD, hd, hk => by
    simp only [List.getElem?_cons_zero, Option.some.injEq] at h
    subst h
    simp only [Nat.add_zero] at hD
    simp only [stF, hD]
    have : (stF l (i + 1) D (appR r0 s)).tm.get t = (stF l (i + 1) (fun _ => false) (appR r0 s)).tm.get t := stF_tm_congr (fun k' r' hr hd' => by
      cases hc : D (i + 1 + k') with
      | false => rfl
      | true => exact absurd hd' (hk (k' + 1) r' (by omega) (by simpa using hr) (by rw [show i + (k' + 1) = i + 1 + k' by omega]; exact hc))) rfl
    rw [this]
    have none : ∀ {l : List Rec} {i : Nat} {s : St}, stF l i (fun _ => false) s = s := fun {l} => by
      induction l with
      | nil => intros; rfl
      | cons r l ih => intro i s; exact ih
    rw [none, appR_tm, if_pos hd]
  | r0 :: l, i, k + 1, D, s, r, h, hD, hd, hk => by
    simp only [stF]
    refine stF_tm_last (k := k) (by simpa using h) (by rw [show i + 1 + k = i + (k + 1) by omega]; exact hD) hd fun k' r' h1 h2 h3 => hk (k' + 1) r' (by omega) (by simpa using h2) (by rw [show i + (k' + 1) = i + 1 + k' by omega]; exact h3)
theorem stF_none : ∀ {l : List Rec} {i : Nat} {D : Nat → Bool} {s : St}, (∀ k, k < l.length → D (i + k) = false) → stF l i D s = s
  | [], _, _, _, _ => rfl
  | r :: l, i, D, s, h => by
    have h0 := h 0 (by simp)
    simp only [Nat.add_zero] at h0
    simp only [stF, h0]
    exact stF_none fun k hk => by
      have := h (k + 1) (by simp; omega)
      rw [show i + 1 + k = i + (k + 1) by omega]; exact this
theorem stF_hp_last {x : Nat} {o : Option Ob} : ∀ {l : List Rec} {i k : Nat} {D : Nat → Bool} {s : St} {r : Rec}, l[k]? = some r → D (i + k) = true → lookN x r.ob = some o →
    (∀ k' r', k < k' → l[k']? = some r' → D (i + k') = true → lookN x r'.ob = none) → (stF l i D s).hp.m.get x = o
  | [], i, k, D, s, r, h, _, _, _ => by simp at h
  | r0 :: l, i, 0, D, s, r, h, hD, hd, hk => by
    simp only [List.getElem?_cons_zero, Option.some.injEq] at h
    subst h
    simp only [Nat.add_zero] at hD
    simp only [stF, hD]
    have : (stF l (i + 1) D (appR r0 s)).hp.m.get x = (stF l (i + 1) (fun _ => false) (appR r0 s)).hp.m.get x := stF_hp_congr (fun k' r' hr hd' => by
      cases hc : D (i + 1 + k') with
      | false => rfl
      | true => exact absurd (hk (k' + 1) r' (by omega) (by simpa using hr) (by rw [show i + (k' + 1) = i + 1 + k' by omega]; exact hc)) hd') rfl
    rw [this, stF_none (fun _ _ => rfl), appR_hp, hd]
  | r0 :: l, i, k + 1, D, s, r, h, hD, hd, hk => by
    simp only [stF]
    refine stF_hp_last (k := k) (by simpa using h) (by rw [show i + 1 + k = i + (k + 1) by omega]; exact hD) hd fun k' r' h1 h2 h3 => hk (k' + 1) r' (by omega) (by simpa using h2) (by rw [show i + (k' + 1) = i + 1 + k' by omega]; exact h3)
/-- the first i, and no more -/
theorem stF_lt : ∀ {l : List Rec} {a k : Nat} {s : St}, stF l a (fun j => decide (j < a + k)) s = (l.take k).foldl (fun s r => appR r s) s
  | [], a, k, s => by simp [stF]
  | r :: l, a, 0, s => by
    rw [stF_none (fun k hk => by simp)]
    rfl
  | r :: l, a, k + 1, s => by
    simp only [stF, List.take_succ_cons, List.foldl_cons]
    rw [show decide (a < a + (k + 1)) = true by simp]
    simp only
    have := @stF_lt l (a + 1) k (appR r s)
    rw [show a + 1 + k = a + (k + 1) by omega] at this
    exact this

end Go.Proofs.Ytabjlmlfmafllaa.Av
