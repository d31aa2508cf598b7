/- Loops as functions; lists of elements as cells. -/
import Derived.Test.YtabjlmlfmafllaaAvV
set_option linter.unusedVariables false
set_option linter.unusedSimpArgs false
namespace Go.Proofs.Ytabjlmlfmafllaa.Av
open Go.RowKit

variable {P : Program} {G : Nat → AV}

/-! ### loops as functions -/
def iter {σ ρ : Type} (step : σ → Option (σ ⊕ ρ)) : Nat → σ → Option ρ
  | 0, _ => none
  | n + 1, s => match step s with | none => none | some (.inl s') => iter step n s' | some (.inr r) => some r
theorem iter_mono {σ ρ : Type} {step : σ → Option (σ ⊕ ρ)} : ∀ {n m : Nat} {s : σ} {r : ρ}, n ≤ m → iter step n s = some r → iter step m s = some r
  | 0, _, _, _, _, h => by cases h
  | n + 1, 0, _, _, hm, _ => by omega
  | n + 1, m + 1, s, r, hm, h => by
    simp only [iter] at h ⊢
    cases hs : step s with
    | none => rw [hs] at h; cases h
    | some x =>
      rw [hs] at h
      cases x with
      | inl s' => exact iter_mono (by omega) h
      | inr r' => exact h
/-- what a loop comes to, if it ends -/
noncomputable def lp {σ ρ : Type} (step : σ → Option (σ ⊕ ρ)) (s : σ) : Option ρ :=
  open Classical in if h : ∃ n r, iter step n s = some r then some (Classical.choose (Classical.choose_spec h)) else none
theorem lp_iff {σ ρ : Type} {step : σ → Option (σ ⊕ ρ)} {s : σ} {r : ρ} : lp step s = some r ↔ ∃ n, iter step n s = some r := by
  unfold lp
  constructor
  · intro h
    split at h
    · rename_i hx
      simp only [Option.some.injEq] at h
      exact ⟨_, h ▸ Classical.choose_spec (Classical.choose_spec hx)⟩
    · cases h
  · rintro ⟨n, h⟩
    have hx : ∃ n r, iter step n s = some r := ⟨n, r, h⟩
    rw [dif_pos hx]
    have h2 := Classical.choose_spec (Classical.choose_spec hx)
    have h3 := iter_mono (Nat.le_max_left n (Classical.choose hx)) h
    have h4 := iter_mono (Nat.le_max_right n (Classical.choose hx)) h2
    rw [h3] at h4
    exact h4.symm
theorem lp_unfold {σ ρ : Type} (step : σ → Option (σ ⊕ ρ)) (s : σ) : lp step s = match step s with | none => none | some (.inl s') => lp step s' | some (.inr r) => some r := by
  have key : ∀ r, lp step s = some r ↔ (match step s with | none => none | some (.inl s') => lp step s' | some (.inr r) => some r) = some r := fun r => by
    rw [lp_iff]
    cases hs : step s with
    | none =>
      simp only [reduceCtorEq, iff_false, not_exists]
      intro n
      cases n <;> simp [iter, hs]
    | some x =>
      cases x with
      | inl s' =>
        simp only
        rw [lp_iff]
        constructor
        · rintro ⟨n, h⟩
          cases n with
          | zero => cases h
          | succ n => simp only [iter, hs] at h; exact ⟨n, h⟩
        · rintro ⟨n, h⟩
          exact ⟨n + 1, by simp only [iter, hs]; exact h⟩
      | inr r' =>
        simp only
        constructor
        · rintro ⟨n, h⟩
          cases n with
          | zero => cases h
          | succ n => simp only [iter, hs] at h; exact h
        · intro h
          exact ⟨1, by simp only [iter, hs]; exact h⟩
  cases hl : lp step s with
  | none =>
    cases hr : (match step s with | none => none | some (.inl s') => lp step s' | some (.inr r) => some r) with
    | none => rfl
    | some r => rw [(key r).2 hr] at hl; cases hl
  | some r => exact ((key r).1 hl).symm
theorem lp_go {σ ρ : Type} {step : σ → Option (σ ⊕ ρ)} {s s' : σ} (h : step s = some (.inl s')) : lp step s = lp step s' := by rw [lp_unfold, h]
theorem lp_end {σ ρ : Type} {step : σ → Option (σ ⊕ ρ)} {s : σ} {r : ρ} (h : step s = some (.inr r)) : lp step s = some r := by rw [lp_unfold, h]

theorem Does.loopM {n : Nat} {b : Code} {s s1 s' : St} {e : AEx} (h : Does P G n b s .normal s1) (k : Does P G n (.loop b) s1 e s') : Does P G n (.loop b) s e s' := h.loop k
/-- a loop does what the function says -/
theorem Does.lp {σ ρ : Type} {m : Nat} {b : Code} {step : σ → Option (σ ⊕ ρ)} {H : σ → St} {X : ρ → AEx} {E : ρ → St} (hs : ∀ s s', step s = some (.inl s') → Does P G m b (H s) .normal (H s'))
    (hx : ∀ s r, step s = some (.inr r) → Does P G m b (H s) (X r) (E r) ∧ X r ≠ .normal) {s : σ} {r : ρ} (hlp : Go.Proofs.Ytabjlmlfmafllaa.Av.lp step s = some r) : Does P G m (.loop b) (H s) (X r) (E r) := by
  obtain ⟨n, h⟩ := lp_iff.1 hlp
  clear hlp
  induction n generalizing s with
  | zero => cases h
  | succ n ih =>
    simp only [iter] at h
    cases hst : step s with
    | none => rw [hst] at h; cases h
    | some x =>
      rw [hst] at h
      cases x with
      | inl s' => exact (hs s s' hst).loop (ih h)
      | inr r' =>
        simp only [Option.some.injEq] at h
        subst h
        obtain ⟨h1, h2⟩ := hx s r' hst
        exact h1.loop_out h2

/-! ### trees -/
theorem ite_some {α : Type} {p : Prop} [Decidable p] {a b : Option α} {r : α} (h : (if p then a else b) = some r) : (p ∧ a = some r) ∨ (¬p ∧ b = some r) := by
  split at h
  · exact .inl ⟨by assumption, h⟩
  · exact .inr ⟨by assumption, h⟩
theorem guard_some {α : Type} {p : Prop} [Decidable p] {a : Option α} {r : α} (h : (if p then a else none) = some r) : p ∧ a = some r := by
  split at h
  · exact ⟨by assumption, h⟩
  · cases h
theorem bind_some {α β : Type} {o : Option α} {f : α → Option β} {r : β} (h : o.bind f = some r) : ∃ v, o = some v ∧ f v = some r := Option.bind_eq_some_iff.1 h

/-! ### elements as cells -/
/-- the cells of all -/
def fl {α : Type} (f : α → List AV) (l : List α) : List AV := l.flatMap f
theorem fl_nil {α : Type} {f : α → List AV} : fl f [] = [] := rfl
theorem fl_cons {α : Type} {f : α → List AV} {x : α} {l : List α} : fl f (x :: l) = f x ++ fl f l := rfl
theorem fl_app {α : Type} {f : α → List AV} {l m : List α} : fl f (l ++ m) = fl f l ++ fl f m := List.flatMap_append
theorem fl_snoc {α : Type} {f : α → List AV} {l : List α} {x : α} {c : List AV} (h : c = f x) : fl f l ++ c = fl f (l ++ [x]) := by simp [fl, h]
theorem fl_length {α : Type} {f : α → List AV} {z : Nat} (hz : ∀ x, (f x).length = z) : ∀ l : List α, (fl f l).length = l.length * z
  | [] => by simp [fl_nil]
  | x :: l => by rw [fl_cons, List.length_append, fl_length hz l, hz, List.length_cons, Nat.add_mul]; omega
theorem fl_drop {α : Type} {f : α → List AV} {z : Nat} (hz : ∀ x, (f x).length = z) : ∀ (l : List α) (n : Nat), (fl f l).drop (n * z) = fl f (l.drop n)
  | l, 0 => by simp
  | [], n + 1 => by simp [fl_nil]
  | x :: l, n + 1 => by
    rw [fl_cons, List.drop_succ_cons, ← fl_drop hz l n, show (n + 1) * z = (f x).length + n * z by rw [hz, Nat.add_mul]; omega, List.drop_append]
    simp
theorem fl_take {α : Type} {f : α → List AV} {z : Nat} (hz : ∀ x, (f x).length = z) : ∀ (l : List α) (n : Nat), (fl f l).take (n * z) = fl f (l.take n)
  | l, 0 => by simp [fl_nil]
  | [], n + 1 => by simp [fl_nil]
  | x :: l, n + 1 => by
    rw [fl_cons, List.take_succ_cons, fl_cons, ← fl_take hz l n, show (n + 1) * z = (f x).length + n * z by rw [hz, Nat.add_mul]; omega, List.take_append]
    simp [List.take_of_length_le (Nat.le_add_right _ _)]
theorem fl_sub {α : Type} {f : α → List AV} {z : Nat} (hz : ∀ x, (f x).length = z) {l : List α} {j : Nat} {x : α} (h : l[j]? = some x) {c : List AV} {a n : Nat} (ha : a + n ≤ z) (hc : sub (f x) a n = c) : sub (fl f l) (j * z + a) n = c := by
  have hj := (List.getElem?_eq_some_iff.1 h).1
  have hx := (List.getElem?_eq_some_iff.1 h).2
  subst hc
  unfold sub
  rw [← List.drop_drop, fl_drop hz, List.drop_eq_getElem_cons hj, hx, fl_cons, List.drop_append, hz, List.take_append]
  have : n - ((f x).length - a) = 0 := by rw [hz]; omega
  simp [this]
theorem fl_sub0 {α : Type} {f : α → List AV} {z : Nat} (hz : ∀ x, (f x).length = z) {l : List α} {j : Nat} {x : α} (h : l[j]? = some x) {c : List AV} (hc : f x = c) : sub (fl f l) (j * z) z = c := by
  have := fl_sub hz h (a := 0) (n := z) (by omega) (c := c) (by subst hc; simp [sub, List.take_of_length_le (Nat.le_of_eq (hz x))])
  simpa using this
theorem fl_sub1 {α : Type} {f : α → List AV} (hz : ∀ x, (f x).length = 1) {l : List α} {j : Nat} {x : α} (h : l[j]? = some x) {c : List AV} (hc : f x = c) : sub (fl f l) j 1 = c := by
  have := fl_sub0 hz h hc
  simpa using this
theorem u8s_sub1 {l : List UInt8} {j : Nat} {x : UInt8} (h : l[j]? = some x) : sub (u8s l) j 1 = [.int .u8 x.toNat] := by
  refine sub_one ?_
  simp [u8s, h]
theorem fl_ne {α : Type} {f : α → List AV} {z : Nat} (hz : ∀ x, (f x).length = z + 1) {l : List α} {j : Nat} {x : α} (h : l[j]? = some x) : fl f l ≠ [] := by
  intro e
  have h1 := congrArg List.length e
  rw [fl_length hz] at h1
  have := (List.getElem?_eq_some_iff.1 h).1
  have h2 : l.length * (z + 1) = 0 := h1
  rcases Nat.mul_eq_zero.1 h2 with h3 | h3 <;> omega
theorem u8s_ne {l : List UInt8} {j : Nat} {x : UInt8} (h : l[j]? = some x) : u8s l ≠ [] := by
  intro e
  have h1 := congrArg List.length e
  simp [u8s] at h1
  subst h1; simp at h
theorem get_lt {α : Type} {l : List α} {j : Nat} {x : α} (h : l[j]? = some x) : j < l.length := (List.getElem?_eq_some_iff.1 h).1
theorem setL_eq : ∀ (vs c : List AV) (off : Nat), off + vs.length ≤ c.length → setL c off vs = c.take off ++ vs ++ c.drop (off + vs.length)
  | [], c, off, _ => by simp [setL]
  | v :: vs, c, off, h => by
    simp only [List.length_cons] at h
    have hlt : off < c.length := by omega
    rw [setL, setL_eq vs _ _ (by simp; omega)]
    have e1 : (c.set off v).take (off + 1) = c.take off ++ [v] := by
      rw [List.take_add_one, List.take_set_of_le (Nat.le_refl _)]
      simp [hlt]
    have e2 : (c.set off v).drop (off + 1 + vs.length) = c.drop (off + (v :: vs).length) := by
      rw [List.drop_set_of_lt (by omega)]
      congr 1
      simp only [List.length_cons]; omega
    rw [e1, e2]
    simp
theorem fl_set {α : Type} {f : α → List AV} {z : Nat} (hz : ∀ x, (f x).length = z) {l : List α} {j : Nat} {x : α} (h : j < l.length) {c : List AV} (hc : c = f x) : setL (fl f l) (j * z) c = fl f (l.set j x) := by
  subst hc
  have hm : (j + 1) * z ≤ l.length * z := Nat.mul_le_mul_right _ h
  rw [setL_eq _ _ _ (by rw [hz, fl_length hz]; rw [Nat.add_mul] at hm; omega), fl_take hz, hz, show j * z + z = (j + 1) * z by rw [Nat.add_mul]; omega, fl_drop hz, List.set_eq_take_append_cons_drop, if_pos h, fl_app, fl_cons, List.append_assoc]
theorem fl_set1 {α : Type} {f : α → List AV} (hz : ∀ x, (f x).length = 1) {l : List α} {j : Nat} {x : α} (h : j < l.length) {c : List AV} (hc : c = f x) : setL (fl f l) j c = fl f (l.set j x) := by
  have := fl_set hz h hc
  simpa using this
/-- a part of an element written -/
theorem fl_setp {α : Type} {f : α → List AV} {z : Nat} (hz : ∀ x, (f x).length = z) {l : List α} {j a : Nat} {x y : α} (h : l[j]? = some x) {c : List AV} (hc : f y = setL (f x) a c) (ha : a + c.length ≤ z) : setL (fl f l) (j * z + a) c = fl f (l.set j y) := by
  have hj := get_lt h
  have hx := (List.getElem?_eq_some_iff.1 h).2
  have hm : (j + 1) * z ≤ l.length * z := Nat.mul_le_mul_right _ hj
  rw [Nat.add_mul] at hm
  have e0 : fl f l = fl f (l.take j) ++ (f x ++ fl f (l.drop (j + 1))) := by
    rw [← fl_cons, ← fl_app]
    congr 1
    rw [← hx, List.getElem_cons_drop, List.take_append_drop]
  have hl : (fl f (l.take j)).length = j * z := by rw [fl_length hz, List.length_take, Nat.min_eq_left (Nat.le_of_lt hj)]
  rw [setL_eq _ _ _ (by rw [fl_length hz]; omega), List.set_eq_take_append_cons_drop, if_pos hj, fl_app, fl_cons, hc, setL_eq _ _ _ (by rw [hz]; exact ha), e0]
  rw [← hl, List.take_append, List.drop_append]
  have hd : ∀ q r : Nat, List.drop ((fl f (l.take j)).length + q + r) (fl f (l.take j)) = [] := fun q r => List.drop_eq_nil_of_le (by omega)
  simp only [List.take_of_length_le (Nat.le_add_right _ _), Nat.add_sub_cancel_left, hd, List.nil_append]
  rw [show (fl f (l.take j)).length + a + c.length - (fl f (l.take j)).length = a + c.length by omega, List.take_append, List.drop_append, hz]
  have h1 : a - z = 0 := by omega
  have h2 : a + c.length - z = 0 := by omega
  simp [h1, h2]
theorem u8s_snoc {l : List UInt8} {c : List AV} {x : UInt8} (h : c = [.int .u8 x.toNat]) : u8s l ++ c = u8s (l ++ [x]) := by simp [u8s, h]
theorem u8s_set {l : List UInt8} {j : Nat} {x : UInt8} (h : j < l.length) {c : List AV} (hc : c = [.int .u8 x.toNat]) : setL (u8s l) j c = u8s (l.set j x) := by
  subst hc
  simp [setL, u8s, List.map_set]
theorem u8s_length {l : List UInt8} : (u8s l).length = l.length := by simp [u8s]
theorem all_one {α : Type} {f : α → List AV} (hf : ∀ x, (f x).all AV.one = true) : ∀ l : List α, (fl f l).all AV.one = true
  | [] => rfl
  | x :: l => by rw [fl_cons, List.all_append, hf, all_one hf l]; rfl
theorem all_pl {α : Type} {f : α → List AV} (hf : ∀ x, (f x).all AV.pl = true) : ∀ l : List α, (fl f l).all AV.pl = true
  | [] => rfl
  | x :: l => by rw [fl_cons, List.all_append, hf, all_pl hf l]; rfl
theorem u8s_one : ∀ l : List UInt8, (u8s l).all AV.one = true
  | [] => rfl
  | x :: l => by simp [u8s, AV.one]
theorem sub_all {c : List AV} {n : Nat} (h : c.length = n) : sub c 0 n = c := by subst h; simp [sub]
end Go.Proofs.Ytabjlmlfmafllaa.Av
