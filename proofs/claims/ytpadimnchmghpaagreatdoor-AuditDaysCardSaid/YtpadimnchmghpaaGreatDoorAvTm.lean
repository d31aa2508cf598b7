import Derived.Test.YtpadimnchmghpaaGreatDoorAvRg
open Prod (fst)
open Int (tdiv tmod)
set_option linter.unusedSectionVars false
set_option linter.unusedVariables false
set_option linter.unusedSimpArgs false
namespace Go.Proofs.YtpadimnchmghpaaGreatDoor.Av
section
variable {α K : Type} [DecidableEq K]
def setK (κ : α → K) : List α → α → List α
 | [], x => [x]
 | y :: l, x => if κ y = κ x then x :: l else y :: setK κ l x
def getK (κ : α → K) : List α → K → Option α
 | [], _ => none
 | y :: l, k => if κ y = k then some y else getK κ l k
variable {κ : α → K}
theorem setK_mem {l : List α} {x : α} (hn : (l.map κ).Nodup) (y : α) : y ∈ setK κ l x ↔ y = x ∨ (y ∈ l ∧ κ y ≠ κ x) := by
 induction l with
 | nil => simp [setK]
 | cons z l ih =>
  simp only [List.map_cons, List.nodup_cons, List.mem_map, not_exists, not_and] at hn
  unfold setK
  split
  ·rename_i h
   simp only [List.mem_cons]
   constructor
   ·rintro (h1 | h1)
    ·exact .inl h1
    ·exact .inr ⟨.inr h1, fun e => hn.1 y h1 (e.trans h.symm)⟩
   ·rintro (h1 | ⟨h1 | h1, h2⟩)
    ·exact .inl h1
    ·subst h1; exact absurd h h2
    ·exact .inr h1
  ·rename_i h
   simp only [List.mem_cons, ih hn.2]
   constructor
   ·rintro (h1 | h1 | h1)
    ·subst h1; exact .inr ⟨.inl rfl, h⟩
    ·exact .inl h1
    ·exact .inr ⟨.inr h1.1, h1.2⟩
   ·rintro (h1 | ⟨h1 | h1, h2⟩)
    ·exact .inr (.inl h1)
    ·exact .inl h1
    ·exact .inr (.inr ⟨h1, h2⟩)
theorem setK_nodup {l : List α} {x : α} (hn : (l.map κ).Nodup) : ((setK κ l x).map κ).Nodup := by
 induction l with
 | nil => simp [setK]
 | cons z l ih =>
  have hn' := hn
  simp only [List.map_cons, List.nodup_cons, List.mem_map, not_exists, not_and] at hn
  unfold setK
  split
  ·rename_i h
   simp only [List.map_cons, ← h]
   exact hn'
  ·rename_i h
   simp only [List.map_cons, List.nodup_cons, List.mem_map, not_exists, not_and]
   refine ⟨fun y hy e => ?_, ih hn.2⟩
   rcases (setK_mem hn.2 y).1 hy with rfl | ⟨h1, h2⟩
   ·exact h e.symm
   ·exact hn.1 y h1 e
def mrgK (κ : α → K) (l m : List α) : List α := m.foldl (setK κ) l
theorem mrgK_nodup {m : List α} : ∀ {l : List α}, (l.map κ).Nodup → ((mrgK κ l m).map κ).Nodup := by
 induction m with
 | nil => exact fun h => h
 | cons x m ih => exact fun h => ih (setK_nodup h)
theorem mrgK_mem {m : List α} (hm : (m.map κ).Nodup) : ∀ {l : List α}, (l.map κ).Nodup → ∀ y, y ∈ mrgK κ l m ↔ y ∈ m ∨ (y ∈ l ∧ ∀ x ∈ m, κ y ≠ κ x) := by
 induction m with
 | nil => intro l hl y; simp [mrgK]
 | cons x m ih =>
  intro l hl y
  simp only [List.map_cons, List.nodup_cons, List.mem_map, not_exists, not_and] at hm
  show y ∈ mrgK κ (setK κ l x) m ↔ _
  rw [ih hm.2 (setK_nodup hl), setK_mem hl]
  simp only [List.mem_cons]
  constructor
  ·rintro (h | ⟨rfl | ⟨h1, h2⟩, h3⟩)
   ·exact .inl (.inr h)
   ·exact .inl (.inl rfl)
   ·exact .inr ⟨h1, fun z hz => hz.elim (fun e => e ▸ h2) (h3 z)⟩
  ·rintro ((h | h) | ⟨h1, h2⟩)
   ·subst h; exact .inr ⟨.inl rfl, fun z hz e => hm.1 z hz e.symm⟩
   ·exact .inl h
   ·exact .inr ⟨.inr ⟨h1, h2 x (.inl rfl)⟩, fun z hz => h2 z (.inr hz)⟩
theorem nodup_of_map {l : List α} (h : (l.map κ).Nodup) : l.Nodup := by
 induction l with
 | nil => exact List.nodup_nil
 | cons x l ih =>
  simp only [List.map_cons, List.nodup_cons, List.mem_map, not_exists, not_and] at h
  exact List.nodup_cons.2 ⟨fun hx => h.1 x hx rfl, ih h.2⟩
theorem mrgK_perm {l m m' : List α} (hl : (l.map κ).Nodup) (hm : (m.map κ).Nodup) (hp : m'.Perm m) : (mrgK κ l m').Perm (mrgK κ l m) := by
 have hm' : (m'.map κ).Nodup := (hp.map κ).nodup_iff.2 hm
 rw [List.perm_ext_iff_of_nodup (nodup_of_map (mrgK_nodup hl)) (nodup_of_map (mrgK_nodup hl))]
 intro y
 rw [mrgK_mem hm' hl, mrgK_mem hm hl]
 simp only [hp.mem_iff]
theorem getK_some {l : List α} {k : K} {y : α} : getK κ l k = some y → y ∈ l ∧ κ y = k := by
 induction l with
 | nil => intro h; cases h
 | cons z l ih =>
  intro h
  unfold getK at h
  split at h
  ·cases h; exact ⟨by simp, by assumption⟩
  ·obtain ⟨h1, h2⟩ := ih h; exact ⟨by simp [h1], h2⟩
theorem getK_eq {l : List α} (hn : (l.map κ).Nodup) {y : α} (hy : y ∈ l) : getK κ l (κ y) = some y := by
 induction l with
 | nil => cases hy
 | cons z l ih =>
  simp only [List.map_cons, List.nodup_cons, List.mem_map, not_exists, not_and] at hn
  unfold getK
  rcases List.mem_cons.1 hy with rfl | hy
  ·rw [if_pos rfl]
  ·rw [if_neg (fun e => hn.1 y hy e.symm), ih hn.2 hy]
theorem set_map {e : α → AV × AV} (he : ∀ x y, keyEq (e x).1 (e y).1 = decide (κ x = κ y)) (l : List α) (x : α) : setE (l.map e) (e x).1 (e x).2 = (setK κ l x).map e := by
 induction l with
 | nil => rfl
 | cons z l ih =>
  rw [List.map_cons]
  unfold setK
  show (match keyEq (e z).1 (e x).1 with | true => ((e z).1, (e x).2) :: l.map e | false => ((e z).1, (e z).2) :: setE (l.map e) (e x).1 (e x).2) = _
  rw [he]
  by_cases h : κ z = κ x
  ·have h1 : (e z).1 = (e x).1 := keyEq_same (by rw [he]; simp [h])
   rw [if_pos h, dT h, h1]; rfl
  ·rw [if_neg h, dF h, ih]; rfl
theorem look_map {e : α → AV × AV} (he : ∀ x y, keyEq (e x).1 (e y).1 = decide (κ x = κ y)) (l : List α) {k : K} {a : AV} (ha : ∀ x, keyEq (e x).1 a = decide (κ x = k)) : lookE (l.map e) a = (getK κ l k).map fun x => (e x).2 := by
 induction l with
 | nil => rfl
 | cons z l ih =>
  rw [List.map_cons]
  unfold getK
  show (match keyEq (e z).1 a with | true => some (e z).2 | false => lookE (l.map e) a) = _
  rw [ha]
  by_cases h : κ z = k
  ·rw [if_pos h, dT h]; rfl
  ·rw [if_neg h, dF h, ih]
theorem lookK_some {e : α → AV × AV} (he : ∀ x y, keyEq (e x).1 (e y).1 = decide (κ x = κ y)) {l : List α} {k : K} {a : AV} (ha : ∀ x, keyEq (e x).1 a = decide (κ x = k)) {q : α} (h : getK κ l k = some q) : lookE (l.map e) a = some (e q).2 := by
 rw [look_map he l ha, h]; rfl
theorem lookK_none {e : α → AV × AV} (he : ∀ x y, keyEq (e x).1 (e y).1 = decide (κ x = κ y)) {l : List α} {k : K} {a : AV} (ha : ∀ x, keyEq (e x).1 a = decide (κ x = k)) (h : getK κ l k = none) : lookE (l.map e) a = none := by
 rw [look_map he l ha, h]; rfl
theorem getK_no {l : List α} {k : K} (h : ¬ (getK κ l k).isSome = true) : getK κ l k = none := by
 cases hh : getK κ l k with
 | none => rfl
 | some x => rw [hh] at h; exact absurd rfl h
end
theorem perm_map {α β : Type} {f : α → β} {l : List α} {m : List β} (h : m.Perm (l.map f)) : ∃ l' : List α, l'.Perm l ∧ m = l'.map f := by
 generalize hb : l.map f = b at h
 have h' := h.symm
 clear h
 induction h' generalizing l with
 | nil => exact ⟨[], by cases l <;> simp at hb ⊢, rfl⟩
 | cons x _ ih =>
  cases l with
  | nil => simp at hb
  | cons y l =>
   simp only [List.map_cons, List.cons.injEq] at hb
   obtain ⟨l', h1, h2⟩ := ih hb.2
   exact ⟨y :: l', h1.cons y, by rw [h2, List.map_cons, hb.1]⟩
 | swap x y b =>
  cases l with
  | nil => simp at hb
  | cons u l =>
   cases l with
   | nil => simp at hb
   | cons v l =>
    simp only [List.map_cons, List.cons.injEq] at hb
    obtain ⟨h1, h2, h3⟩ := hb
    exact ⟨v :: u :: l, .swap _ _ _, by rw [List.map_cons, List.map_cons, h1, h2, h3]⟩
 | trans _ _ ih1 ih2 =>
  obtain ⟨l1, h1, h2⟩ := ih1 hb
  obtain ⟨l2, h3, h4⟩ := ih2 h2.symm
  exact ⟨l2, h3.trans h1, h4⟩
/-! ### maps that are shown, and hidden again -/
theorem Sub.setOb {n id : Nat} {s : St} {k k' : Ob} (hk : s.hp.m.get id = some k) (ha : k.abs → False) (h : ∀ μ ro w b, ObRel μ ro w b k → ObRel μ ro w b k') : Sub n s { s with hp := s.hp.set id k' } :=
 Sub.of_rel fun G μ ro w a hs => by
  refine ⟨hs.tm, hs.nt, hs.hp.weak rfl fun i k1 hi => ?_, hs.gl, hs.df⟩
  simp only [Hp.set, Tr.get_put] at hi
  by_cases e : i = id
  ·subst e
   simp only [if_true, sJ] at hi
   subst hi
   exact ⟨_, hk, fun b _ hr => h _ _ _ _ hr, fun hb => (ha hb).elim⟩
  ·rw [if_neg e] at hi
   exact ⟨_, hi, fun _ _ h => h, fun h => h⟩
theorem Sub.mapPerm {n id : Nat} {s : St} {kd : KK} {es es' : List (AV × AV)} (hk : s.hp.m.get id = some (.map kd es)) (hp : es.Perm es') : Sub n s { s with hp := s.hp.set id (.map kd es') } :=
 Sub.setOb hk (fun h => h) fun μ ro w b h => MapRel.perm h hp
abbrev bM (kd : KK) (es : List (AV × AV)) : Blk := { c := [], e := 0, ext := false, fz := 0, pl := false, it := some (.map kd es) }
abbrev bR (m : Nat) (kd : KK) (es : List (AV × AV)) (ms : List MapEntry) (cl : Nat) : Blk := { c := [], e := 0, ext := false, fz := 0, pl := false, it := some (.rm m kd es ms cl) }
abbrev bI (m since : Nat) (seen : List Nat) (cl : Nat) : Blk := { c := [], e := 0, ext := false, fz := 0, pl := false, it := some (.mit m since seen cl) }
variable {P : Program} {G : Nat → AV} {μ μ' : Nat → Option Loc} {ro ro' : Nat → Prop} {w w' : World}
theorem HpRel.show {h : Hp} {id : Nat} {kd : KK} {es : List (AV × AV)} (hh : HpRel μ ro h w) (hk : h.m.get id = some (.map kd es)) :
  ∃ m es' ms cl, es.Perm es' ∧ es'.length = ms.length ∧ (ms.map (·.born)).Nodup ∧ HpRel μ ro (h.set id (.rm m kd es' ms cl)) w := by
 obtain ⟨b, hb, hob⟩ : ∃ b, μ id = some b ∧ MapRel μ ro w b kd es := by
  rcases hh.obs id _ hk with h | ⟨_, h, _⟩
  ·exact h
  ·exact h.elim
 obtain ⟨m, es', ms, cl, h1, h2⟩ := hob.show
 refine ⟨m, es', ms, cl, h1, h2.2.2.1.length.symm, h2.2.2.2.2.1, hh.weak rfl fun i k1 hi => ?_⟩
 simp only [Hp.set, Tr.get_put] at hi
 by_cases e : i = id
 ·subst e
  simp only [if_true, sJ] at hi
  subst hi
  refine ⟨_, hk, fun c hc hr => ?_, fun hb => hb.elim⟩
  rw [hb] at hc; cases hc
  exact h2
 ·rw [if_neg e] at hi
  exact ⟨_, hi, fun _ _ h => h, fun h => h⟩
theorem CallsM.showA {n : Nat} {f : FuncId} {args : List AV} {blks blks' : List Blk} {r : AV} (id : Nat) {kd : KK} {es : List (AV × AV)} (hk : (hpOf blks ⟨.e, 0⟩).m.get id = some (.map kd es))
  (h : ∀ m es' ms cl, es.Perm es' → es'.length = ms.length → (ms.map (·.born)).Nodup → ∃ blks1, (hpOf blks1 ⟨.e, 0⟩) = (hpOf blks ⟨.e, 0⟩).set id (.rm m kd es' ms cl) ∧ CallsM P G n f args blks1 r blks') : CallsM P G n f args blks r blks' := by
 intro μ ro w vs ha hh hg
 obtain ⟨m, es', ms, cl, h1, h2, h3, h4⟩ := hh.show hk
 obtain ⟨blks1, h5, h6⟩ := h m es' ms cl h1 h2 h3
 exact h6 μ ro w vs ha (h5 ▸ h4) hg
theorem CallsM.nodupA {n : Nat} {f : FuncId} {args : List AV} {blks blks' : List Blk} {r : AV} (id : Nat) {kd : KK} {es : List (AV × AV)} (hk : (hpOf blks ⟨.e, 0⟩).m.get id = some (.map kd es))
  (h : (es.map (·.1)).Nodup → CallsM P G n f args blks r blks') : CallsM P G n f args blks r blks' := by
 intro μ ro w vs ha hh hg
 obtain ⟨b, hb, hob⟩ : ∃ b, μ id = some b ∧ MapRel μ ro w b kd es := by
  rcases hh.obs id _ hk with h | ⟨_, h, _⟩
  ·exact h
  ·exact h.elim
 obtain ⟨m, cl, p, g1, g2, g3, g4, g5, g6⟩ := hob
 exact h g6 μ ro w vs ha hh hg
theorem nodup_key {α K : Type} [DecidableEq K] {κ : α → K} {e : α → AV × AV} (he : ∀ x y, keyEq (e x).1 (e y).1 = decide (κ x = κ y)) (hr : ∀ x, keyEq (e x).1 (e x).1 = true) : ∀ {l : List α}, ((l.map e).map (·.1)).Nodup → (l.map κ).Nodup
 | [], _ => List.nodup_nil
 | x :: l, h => by
  simp only [List.map_cons, List.nodup_cons] at h ⊢
  refine ⟨fun hm => h.1 ?_, nodup_key he hr h.2⟩
  obtain ⟨y, hy, hyx⟩ := List.mem_map.1 hm
  have h1 : keyEq (e y).1 (e x).1 = true := by rw [he]; simp [hyx]
  rw [← keyEq_same h1]
  exact List.mem_map.2 ⟨e y, List.mem_map.2 ⟨y, hy, rfl⟩, rfl⟩
end Go.Proofs.YtpadimnchmghpaaGreatDoor.Av
