/- Plain laws for the functions that the program dc.py prints. -/
import Derived.Test.YtabjlmlfmafllaaAvX
set_option linter.unusedVariables false
namespace Go.Proofs.Ytabjlmlfmafllaa.Av
/-! ### plain laws of the functions that dc.py prints -/
theorem guard_i {α : Type} {p : Prop} [Decidable p] {a b : Option α} (h : p) (h2 : a = b) : (if p then a else none) = b := by rw [if_pos h, h2]
theorem ite_t {α : Type} {p : Prop} [Decidable p] {a b r : α} (h : p) (h2 : a = r) : (if p then a else b) = r := by rw [if_pos h, h2]
theorem ite_f {α : Type} {p : Prop} [Decidable p] {a b r : α} (h : ¬p) (h2 : b = r) : (if p then a else b) = r := by rw [if_neg h, h2]
theorem bind_i {α β : Type} {o : Option α} {v : α} {f : α → Option β} {r : Option β} (h : o = some v) (h2 : f v = r) : o.bind f = r := by rw [h]; exact h2
/-- over a list, with a way out -/
def foldE {α β ρ : Type} (g : β → α → ρ ⊕ β) (out : β → ρ) : List α → β → ρ
  | [], a => out a
  | x :: l, a => match g a x with | .inl r => r | .inr b => foldE g out l b
theorem lp_foldE {α β ρ σ : Type} {l : List α} {mk : β → Nat → σ} {step : σ → Option (σ ⊕ ρ)} {g : β → α → ρ ⊕ β} {out : β → ρ} (I : Nat → β → Prop)
    (hstep : ∀ k x a, l[k]? = some x → I k a → step (mk a k) = some (match g a x with | .inl r => .inr r | .inr b => .inl (mk b (k + 1))) ∧ ∀ b, g a x = .inr b → I (k + 1) b)
    (hend : ∀ a, I l.length a → step (mk a l.length) = some (.inr (out a))) : ∀ (m k : Nat) (a : β), k + m = l.length → I k a → lp step (mk a k) = some (foldE g out (l.drop k) a)
  | 0, k, a, hk, hi => by
    have hk : k = l.length := by omega
    subst hk
    rw [lp_end (hend a hi), List.drop_length]
    rfl
  | m + 1, k, a, hk, hi => by
    have hlt : k < l.length := by omega
    obtain ⟨h1, h2⟩ := hstep k l[k] a (List.getElem?_eq_getElem hlt) hi
    rw [List.drop_eq_getElem_cons hlt]
    unfold foldE
    cases hg : g a l[k] with
    | inl r => rw [hg] at h1; exact lp_end h1
    | inr b => rw [hg] at h1; rw [lp_go h1]; exact lp_foldE I hstep hend m (k + 1) b (by omega) (h2 b hg)
theorem lp_foldE0 {α β ρ σ : Type} {l : List α} {mk : β → Nat → σ} {step : σ → Option (σ ⊕ ρ)} {g : β → α → ρ ⊕ β} {out : β → ρ} (I : Nat → β → Prop)
    (hstep : ∀ k x a, l[k]? = some x → I k a → step (mk a k) = some (match g a x with | .inl r => .inr r | .inr b => .inl (mk b (k + 1))) ∧ ∀ b, g a x = .inr b → I (k + 1) b)
    (hend : ∀ a, I l.length a → step (mk a l.length) = some (.inr (out a))) {a : β} (hi : I 0 a) : lp step (mk a 0) = some (foldE g out l a) := by
  have := lp_foldE I hstep hend l.length 0 a (by omega) hi
  simpa using this
theorem foldE_foldl {α β ρ : Type} {g : β → α → β} {out : β → ρ} : ∀ (l : List α) (a : β), foldE (fun b x => .inr (g b x)) out l a = out (l.foldl g a)
  | [], a => rfl
  | x :: l, a => by simp only [foldE, List.foldl_cons]; exact foldE_foldl l _
/-- over a list, straight -/
theorem lp_foldl {α β ρ σ : Type} {l : List α} {mk : β → Nat → σ} {step : σ → Option (σ ⊕ ρ)} {g : β → α → β} {out : β → ρ} (I : Nat → β → Prop)
    (hstep : ∀ k x a, l[k]? = some x → I k a → step (mk a k) = some (.inl (mk (g a x) (k + 1))) ∧ I (k + 1) (g a x))
    (hend : ∀ a, I l.length a → step (mk a l.length) = some (.inr (out a))) {a : β} (hi : I 0 a) : lp step (mk a 0) = some (out (l.foldl g a)) := by
  have key := lp_foldE0 (mk := mk) (step := step) (g := fun b x => Sum.inr (g b x)) (out := out) I (fun k x a hx ha => ⟨(hstep k x a hx ha).1, fun b hb => by cases hb; exact (hstep k x a hx ha).2⟩) hend hi
  rw [key, foldE_foldl]
end Go.Proofs.Ytabjlmlfmafllaa.Av
