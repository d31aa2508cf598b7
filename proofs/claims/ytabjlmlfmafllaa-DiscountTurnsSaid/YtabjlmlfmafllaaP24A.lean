/- Discounts: names, windows and checks answer alike. -/
import Derived.Test.YtabjlmlfmafllaaDA
import Derived.Test.YtabjlmlfmafllaaAvPl
import Derived.Laws.RangeString
import Derived.Laws.RangeAny
set_option linter.unusedVariables false
set_option linter.unusedSimpArgs false
set_option maxHeartbeats 4000000
namespace Go.Proofs.Ytabjlmlfmafllaa.Av
open Go Go.Proofs
theorem lp_ex2 {σ ρ : Type} {step : σ → Option (σ ⊕ ρ)} (n : Nat) (I : Nat → σ → Prop) (Q : ρ → Prop)
    (hstep : ∀ k s, k < n → I k s → (∃ s', step s = some (.inl s') ∧ I (k + 1) s') ∨ ∃ r, step s = some (.inr r) ∧ Q r)
    (hend : ∀ s, I n s → ∃ r, step s = some (.inr r) ∧ Q r) : ∀ (m k : Nat) (s : σ), k + m = n → I k s → ∃ r, lp step s = some r ∧ Q r
  | 0, k, s, hk, hi => by
    have hk : k = n := by omega
    subst hk
    obtain ⟨r, h, hq⟩ := hend s hi
    exact ⟨r, lp_end h, hq⟩
  | m + 1, k, s, hk, hi => by
    rcases hstep k s (by omega) hi with ⟨s', h, hi'⟩ | ⟨r, h, hq⟩
    · rw [lp_go h]
      exact lp_ex2 n I Q hstep hend m (k + 1) s' (by omega) hi'
    · exact ⟨r, lp_end h, hq⟩
theorem ba_at (s : List UInt8) (k : Nat) (h : k < s.length) (h2 : k < (⟨s.toArray⟩ : ByteArray).size) : (⟨s.toArray⟩ : ByteArray)[k] = s[k] := by
  show s.toArray[k] = s[k]
  simp
theorem dec_ascii (s : List UInt8) (k : Nat) (h : k < s.length) (ha : s[k].toNat < 128) : dec s k = (s[k].toNat, 1) := by
  have h2 : k < (⟨s.toArray⟩ : ByteArray).size := by simpa [ByteArray.size] using h
  have := Go.decode_ascii ⟨s.toArray⟩ k h2 (by rw [ba_at s k h h2]; exact ha)
  rw [ba_at s k h h2] at this
  exact this
theorem dec_high (s : List UInt8) (k : Nat) (h : k < s.length) (ha : 128 ≤ s[k].toNat) : 128 ≤ (dec s k).1 := by
  have h2 : k < (⟨s.toArray⟩ : ByteArray).size := by simpa [ByteArray.size] using h
  exact (Go.decode_high ⟨s.toArray⟩ k h2 (by rw [ba_at s k h h2]; exact ha)).1
/-- may the byte `b` stand at place `k` of a name -/
def nmOk (k : Nat) (b : Nat) : Bool := if 97 ≤ b ∧ b ≤ 122 then true else if k = 0 then false else decide ((48 ≤ b ∧ b ≤ 57) ∨ b = 45)
def nmStep (s : List UInt8) (k : Nat) : Nat ⊕ (Unit ⊕ Unit) := match s[k]? with
  | none => .inr (.inr ())
  | some x => if nmOk k x.toNat then .inl (k + 1) else .inr (.inl ())
theorem ref_name_step (s : List UInt8) (hs : s.length ≤ 12) (k : Nat) : tollwayref01_Name_L3_step s k = some (nmStep s k) := by
  unfold tollwayref01_Name_L3_step nmStep
  by_cases hk : k < s.length
  · have hx := List.getElem?_eq_getElem hk
    rw [if_pos (by omega), hx, Option.bind_some]
    generalize s[k] = x
    have hx2 := x.toNat_lt
    unfold nmOk
    have hg : InR .i64 ((k : Int) + 1) := inR_i64.2 (by omega)
    repeat' split
    all_goals first | rfl | omega | (exfalso; simp_all; done) | (exfalso; simp_all; omega)
  · rw [if_neg (by omega), List.getElem?_eq_none (by omega)]
theorem text_name_step (s : List UInt8) (hs : s.length ≤ 12) (k : Nat) : text_Name_L3_step s k = some (nmStep s k) := by
  unfold text_Name_L3_step nmStep
  by_cases hk : k < s.length
  · have hx := List.getElem?_eq_getElem hk
    rw [if_pos hk, hx, Option.bind_some]
    by_cases ha : s[k].toNat < 128
    · rw [dec_ascii s k hk ha]
      generalize s[k] = x at ha ⊢
      unfold nmOk
      dsimp only
      repeat' split
      all_goals first | rfl | omega | (exfalso; simp_all; done) | (exfalso; simp_all; omega)
    · have := dec_high s k hk (by omega)
      generalize dec s k = p at this
      generalize s[k] = x at ha ⊢
      unfold nmOk
      dsimp only
      repeat' split
      all_goals first | rfl | omega | (exfalso; simp_all; done) | (exfalso; simp_all; omega)
  · rw [if_neg hk, List.getElem?_eq_none (by omega)]
theorem name_both (s : List UInt8) : ∃ b, text_Name s = some b ∧ tollwayref01_Name s = some b := by
  unfold text_Name tollwayref01_Name
  by_cases h0 : s = []
  · exact ⟨false, ite_t h0 rfl, ite_t (by subst h0; decide) rfl⟩
  have h0' := List.length_pos_iff.2 h0
  rw [if_neg h0, if_neg (show ¬ ((s.length : Int) < 1) by omega)]
  by_cases h1 : s.length > 12
  · exact ⟨false, ite_t (by omega) rfl, ite_t (by omega) rfl⟩
  have h2 : ¬ ((s.length : Int) > 12) := by omega
  rw [if_neg h2, if_neg h2]
  have e : text_Name_L3_step s = tollwayref01_Name_L3_step s := funext fun k => by rw [text_name_step s (by omega), ref_name_step s (by omega)]
  rw [e]
  obtain ⟨r, hr, _⟩ := lp_ex2 (step := tollwayref01_Name_L3_step s) s.length (fun k p => p = k) (fun _ => True) (fun k p hk hi => by
    subst hi
    rw [ref_name_step s (by omega)]
    unfold nmStep
    rw [List.getElem?_eq_getElem hk]
    dsimp only
    split
    · exact .inl ⟨_, rfl, rfl⟩
    · exact .inr ⟨_, rfl, trivial⟩) (fun p hi => by
    subst hi
    rw [ref_name_step s (by omega)]
    unfold nmStep
    rw [List.getElem?_eq_none (Nat.le_refl _)]
    exact ⟨_, rfl, trivial⟩) s.length 0 0 (by omega) rfl
  rw [hr]
  cases r with
  | inl a => exact ⟨false, rfl, rfl⟩
  | inr a => exact ⟨true, rfl, rfl⟩
end Go.Proofs.Ytabjlmlfmafllaa.Av
