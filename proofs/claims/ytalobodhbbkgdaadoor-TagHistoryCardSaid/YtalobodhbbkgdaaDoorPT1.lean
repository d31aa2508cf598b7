/- Transponder numbers: digits, the Luhn sum, and what Check answers. -/
import Derived.Test.YtalobodhbbkgdaaDoorT2
import Derived.Test.YtalobodhbbkgdaaDoorAvPl
import Derived.Laws.RangeString
import Derived.Laws.RangeAny
set_option linter.unusedVariables false
set_option linter.unusedSimpArgs false
set_option maxHeartbeats 1000000
namespace Go.Proofs.YtalobodhbbkgdaaDoor.Av
open Go Go.Proofs
theorem ba_at (s : List UInt8) (k : Nat) (h : k < s.length) (h2 : k < (⟨s.toArray⟩ : ByteArray).size) : (⟨s.toArray⟩ : ByteArray)[k] = s[k] := by
  show s.toArray[k] = s[k]
  simp
theorem dec_ascii (s : List UInt8) (k : Nat) (h : k < s.length) (ha : s[k].toNat < 128) : dec s k = (s[k].toNat, 1) := by
  have h2 : k < (⟨s.toArray⟩ : ByteArray).size := by simpa [ByteArray.size] using h
  have := Go.decode_ascii ⟨s.toArray⟩ k h2 (by rw [ba_at s k h h2]; exact ha)
  rw [ba_at s k h h2] at this
  exact this
theorem dec_high (s : List UInt8) (k : Nat) (h : k < s.length) (ha : 128 ≤ s[k].toNat) : 128 ≤ (dec s k).1 := by
  have h2 : k < (⟨s.toArray⟩ : ByteArray).size := by simpa [ByteArray.size] using h
  exact (Go.decode_high ⟨s.toArray⟩ k h2 (by rw [ba_at s k h h2]; exact ha)).1
/-- a loop by what holds in it -/
theorem lp_inv {σ ρ : Type} {step : σ → Option (σ ⊕ ρ)} (I : σ → Prop) (m : σ → Nat) (Q : ρ → Prop)
    (h : ∀ s, I s → (∃ s', step s = some (.inl s') ∧ I s' ∧ m s' < m s) ∨ (∃ r, step s = some (.inr r) ∧ Q r)) (s : σ) (hs : I s) : ∃ r, lp step s = some r ∧ Q r := by
  generalize hn : m s = n
  induction n using Nat.strongRecOn generalizing s with
  | ind n ih =>
    rcases h s hs with ⟨s', h1, h2, h3⟩ | ⟨r, h1, h2⟩
    · rw [lp_go h1]; exact ih _ (by omega) s' h2 rfl
    · exact ⟨r, lp_end h1, h2⟩
theorem lp_invE {σ ρ : Type} {step : σ → Option (σ ⊕ ρ)} (I : σ → Prop) (m : σ → Nat) (r : ρ)
    (h : ∀ s, I s → (∃ s', step s = some (.inl s') ∧ I s' ∧ m s' < m s) ∨ step s = some (.inr r)) (s : σ) (hs : I s) : lp step s = some r := by
  obtain ⟨r', h1, rfl⟩ := lp_inv I m (fun x => x = r) (fun s hs => (h s hs).imp_right fun h => ⟨r, h, rfl⟩) s hs
  exact h1
/-- is a byte a digit -/
def dg (c : UInt8) : Bool := decide (48 ≤ c.toNat) && decide (c.toNat ≤ 57)
theorem dg_iff {c : UInt8} : dg c = true ↔ 48 ≤ c.toNat ∧ c.toNat ≤ 57 := by simp [dg]
/-- what a digit counts -/
def lv (i : Nat) (c : UInt8) : Int := if i % 2 = 0 then (if ((c.toNat : Int) - 48) * 2 > 9 then ((c.toNat : Int) - 48) * 2 - 9 else ((c.toNat : Int) - 48) * 2) else (c.toNat : Int) - 48
/-- the Luhn sum -/
def ls : Nat → List UInt8 → Int
  | _, [] => 0
  | i, c :: l => lv i c + ls (i + 1) l
theorem ls_app (a : List UInt8) : ∀ (i : Nat) (b : List UInt8), ls i (a ++ b) = ls i a + ls (i + a.length) b := by
  induction a with
  | nil => intro i b; simp [ls]
  | cons c a ih =>
    intro i b
    simp only [List.cons_append, ls, ih, List.length_cons]
    rw [show i + 1 + a.length = i + (a.length + 1) by omega]; omega
theorem lv_bound {i : Nat} {c : UInt8} (h : dg c = true) : 0 ≤ lv i c ∧ lv i c ≤ 9 := by
  have := dg_iff.1 h
  unfold lv
  split
  · split <;> omega
  · omega
theorem ls_bound (l : List UInt8) : ∀ (i : Nat), (∀ c ∈ l, dg c = true) → 0 ≤ ls i l ∧ ls i l ≤ 9 * l.length := by
  induction l with
  | nil => intro i _; simp [ls]
  | cons c l ih =>
    intro i h
    have h1 := lv_bound (i := i) (h c List.mem_cons_self)
    have h2 := ih (i + 1) (fun x hx => h x (List.mem_cons_of_mem _ hx))
    simp only [ls, List.length_cons]; omega
theorem ls_take (s : List UInt8) (k : Nat) (c : UInt8) (h : s[k]? = some c) : ls 0 (s.take (k + 1)) = ls 0 (s.take k) + lv k c := by
  have hk : k < s.length := (List.getElem?_eq_some_iff.1 h).1
  rw [List.take_add_one, h, Option.toList_some, ls_app, List.length_take]
  simp only [ls]
  rw [show 0 + min k s.length = k by omega]; omega
theorem digits_eq (s : List UInt8) (n : Int) : tag_digits s n = some (s.all dg && ((s.length : Int) == n)) := by
  unfold tag_digits
  have key := lp_inv (step := tag_digits_L1_step s n) (fun k : Nat => k ≤ s.length ∧ ∀ c ∈ s.take k, dg c = true) (fun k => s.length - k) (fun r => (r = .inl () ∧ s.all dg = false) ∨ (r = .inr () ∧ s.all dg = true)) ?_ 0 ⟨Nat.zero_le _, by simp⟩
  · obtain ⟨r, h, hq⟩ := key
    rw [h, Option.bind_some]
    rcases hq with ⟨rfl, hq⟩ | ⟨rfl, hq⟩
    · rw [hq]; first | done | rfl
    · rw [hq]; first | done | rfl
  intro k ⟨h1, h2⟩
  unfold tag_digits_L1_step
  by_cases hk : k < s.length
  · rw [if_pos hk, Option.bind_some]
    by_cases ha : s[k].toNat < 128
    · rw [dec_ascii s k hk ha]
      dsimp only
      by_cases h48 : (s[k].toNat : Int) < 48
      · rw [if_pos h48]
        refine .inr ⟨_, rfl, .inl ⟨rfl, ?_⟩⟩
        rw [List.all_eq_false]
        exact ⟨s[k], List.getElem_mem hk, by rw [dg_iff]; omega⟩
      · rw [if_neg h48]
        by_cases h57 : (s[k].toNat : Int) > 57
        · rw [if_pos h57]
          refine .inr ⟨_, rfl, .inl ⟨rfl, ?_⟩⟩
          rw [List.all_eq_false]
          exact ⟨s[k], List.getElem_mem hk, by rw [dg_iff]; omega⟩
        · rw [if_neg h57]
          refine .inl ⟨_, rfl, ⟨hk, ?_⟩, by omega⟩
          intro c hc
          rw [List.take_add_one, List.getElem?_eq_getElem hk, Option.toList_some, List.mem_append, List.mem_singleton] at hc
          rcases hc with hc | rfl
          · exact h2 c hc
          · rw [dg_iff]; omega
    · have hd := dec_high s k hk (by omega)
      rw [if_neg (by omega), if_pos (by omega)]
      refine .inr ⟨_, rfl, .inl ⟨rfl, ?_⟩⟩
      rw [List.all_eq_false]
      exact ⟨s[k], List.getElem_mem hk, by rw [dg_iff]; omega⟩
  · rw [if_neg hk]
    refine .inr ⟨_, rfl, .inr ⟨rfl, ?_⟩⟩
    rw [List.take_of_length_le (by omega)] at h2
    rw [List.all_eq_true]; exact h2
theorem luhn_eq (s : List UInt8) (hs : s.length ≤ 1000) (hd : ∀ c ∈ s, dg c = true) : tag_luhn s = some (ls 0 s) := by
  unfold tag_luhn
  rw [lp_invE (step := tag_luhn_L1_step s) (fun p : Int × Nat => p.2 ≤ s.length ∧ p.1 = ls 0 (s.take p.2)) (fun p => s.length - p.2) (ls 0 s) ?_ (0, 0) ⟨Nat.zero_le _, by simp [ls]⟩]; rfl
  rintro ⟨v, k⟩ ⟨h1, h2⟩
  dsimp only at h1 h2
  unfold tag_luhn_L1_step
  dsimp only
  by_cases hk : k < s.length
  · have hx : s[k]? = some s[k] := List.getElem?_eq_getElem hk
    have hc := dg_iff.1 (hd _ (List.getElem_mem hk))
    have hb := ls_bound (s.take k) 0 (fun c hc => hd c (List.mem_of_mem_take hc))
    rw [List.length_take] at hb
    have ht := ls_take s k _ hx
    rw [if_pos hk, dec_ascii s k hk (by omega), Option.bind_some]
    dsimp only
    have i32 : InR .i32 ((s[k].toNat : Int) - 48) := inR_i32.2 (by omega)
    rw [if_pos i32, if_pos (inR_i64.2 (by omega)), show Int.tmod (k : Int) 2 = ((k % 2 : Nat) : Int) by rw [Int.tmod_eq_emod_of_nonneg (by omega)]; omega]
    unfold lv at ht
    by_cases hp : k % 2 = 0
    · rw [if_pos hp] at ht
      rw [if_pos (by omega), if_pos (inR_i64.2 (by omega))]
      by_cases h9 : ((s[k].toNat : Int) - 48) * 2 > 9
      · rw [if_pos h9] at ht ⊢
        rw [if_pos (inR_i64.2 (by omega)), if_pos (inR_i64.2 (by omega))]
        exact .inl ⟨_, rfl, ⟨hk, by dsimp only; omega⟩, by dsimp only; omega⟩
      · rw [if_neg h9] at ht ⊢
        rw [if_pos (inR_i64.2 (by omega))]
        exact .inl ⟨_, rfl, ⟨hk, by dsimp only; omega⟩, by dsimp only; omega⟩
    · rw [if_neg hp] at ht
      rw [if_neg (by omega), if_pos (inR_i64.2 (by omega))]
      exact .inl ⟨_, rfl, ⟨hk, by dsimp only; omega⟩, by dsimp only; omega⟩
  · rw [if_neg hk]
    rw [List.take_of_length_le (by omega)] at h2
    exact .inr (by rw [h2])
theorem rsum_eq (s : List UInt8) (hs : s.length ≤ 1000) : tollwayref11_sum s = some (if s.all dg = true then ls 0 s else -1) := by
  unfold tollwayref11_sum
  have key := lp_inv (step := tollwayref11_sum_L1_step s) (fun p : Int × Nat => p.2 ≤ s.length ∧ p.1 = ls 0 (s.take p.2) ∧ ∀ c ∈ s.take p.2, dg c = true) (fun p => s.length - p.2)
    (fun r => (r = .inl () ∧ s.all dg = false) ∨ (r = .inr (ls 0 s) ∧ s.all dg = true)) ?_ (0, 0) ⟨Nat.zero_le _, by simp [ls], by simp⟩
  · obtain ⟨r, h, hq⟩ := key
    rw [h, Option.bind_some]
    rcases hq with ⟨rfl, hq⟩ | ⟨rfl, hq⟩
    · rw [hq]; first | done | rfl
    · rw [hq]; first | done | rfl
  rintro ⟨v, k⟩ ⟨h1, h2, h3⟩
  dsimp only at h1 h2 h3
  unfold tollwayref11_sum_L1_step
  dsimp only
  by_cases hk : k < s.length
  · have hx : s[k]? = some s[k] := List.getElem?_eq_getElem hk
    rw [if_pos (by omega), hx, Option.bind_some]
    by_cases h48 : (s[k].toNat : Int) < 48
    · rw [if_pos h48]
      refine .inr ⟨_, rfl, .inl ⟨rfl, ?_⟩⟩
      rw [List.all_eq_false]
      exact ⟨s[k], List.getElem_mem hk, by rw [dg_iff]; omega⟩
    rw [if_neg h48]
    by_cases h57 : (s[k].toNat : Int) > 57
    · rw [if_pos h57]
      refine .inr ⟨_, rfl, .inl ⟨rfl, ?_⟩⟩
      rw [List.all_eq_false]
      exact ⟨s[k], List.getElem_mem hk, by rw [dg_iff]; omega⟩
    rw [if_neg h57]
    have hb := ls_bound (s.take k) 0 h3
    rw [List.length_take] at hb
    have ht := ls_take s k _ hx
    have hall : ∀ c ∈ s.take (k + 1), dg c = true := by
      intro c hc
      rw [List.take_add_one, hx, Option.toList_some, List.mem_append, List.mem_singleton] at hc
      rcases hc with hc | rfl
      · exact h3 c hc
      · rw [dg_iff]; omega
    have i8 : InR .u8 ((s[k].toNat : Int) - 48) := inR_u8.2 (by omega)
    have ik : InR .i64 ((k : Int) + 1) := inR_i64.2 (by omega)
    rw [if_pos i8, if_pos (inR_i64.2 (by omega)), show Int.tmod (k : Int) 2 = ((k % 2 : Nat) : Int) by rw [Int.tmod_eq_emod_of_nonneg (by omega)]; omega]
    unfold lv at ht
    by_cases hp : k % 2 = 0
    · rw [if_pos hp] at ht
      rw [if_pos (by omega), if_pos (inR_i64.2 (by omega))]
      by_cases h9 : ((s[k].toNat : Int) - 48) * 2 > 9
      · rw [if_pos h9] at ht
        rw [if_pos (show 2 * ((s[k].toNat : Int) - 48) > 9 by omega), if_pos (inR_i64.2 (by omega)), if_pos (inR_i64.2 (by omega)), if_pos ik]
        exact .inl ⟨_, rfl, ⟨hk, by dsimp only; omega, hall⟩, by dsimp only; omega⟩
      · rw [if_neg h9] at ht
        rw [if_neg (show ¬ 2 * ((s[k].toNat : Int) - 48) > 9 by omega), if_pos (inR_i64.2 (by omega)), if_pos ik]
        exact .inl ⟨_, rfl, ⟨hk, by dsimp only; omega, hall⟩, by dsimp only; omega⟩
    · rw [if_neg hp] at ht
      rw [if_neg (by omega), if_neg (by omega), if_pos (inR_i64.2 (by omega)), if_pos ik]
      exact .inl ⟨_, rfl, ⟨hk, by dsimp only; omega, hall⟩, by dsimp only; omega⟩
  · rw [if_neg (by omega)]
    rw [List.take_of_length_le (by omega)] at h2 h3
    exact .inr ⟨_, rfl, .inr ⟨by rw [h2], List.all_eq_true.2 h3⟩⟩
/-- what Check answers -/
def chk (s : List UInt8) : Int := if (s.all dg && decide (s.length = 12) && decide (ls 0 s % 10 = 0)) = true then 0 else 18
theorem check_eq (s : List UInt8) : tag_Check s = some (chk s) := by
  unfold tag_Check chk
  rw [digits_eq, Option.bind_some]
  cases hd : s.all dg with
  | false => rfl
  | true =>
    have hd' := List.all_eq_true.1 hd
    by_cases hl : s.length = 12
    · have hb := ls_bound s 0 hd'
      rw [if_pos (by rw [hl]; rfl), luhn_eq s (by omega) hd', Option.bind_some, Int.tmod_eq_emod_of_nonneg hb.1]
      by_cases h0 : ls 0 s % 10 = 0
      · rw [if_pos h0, if_pos (by simp [hl, h0])]
      · rw [if_neg h0, if_neg (by simp [h0])]
    · rw [if_neg (by simp; omega), if_neg (by simp [hl])]
theorem rcheck_eq (s : List UInt8) : tollwayref11_Check s = some (chk s) := by
  unfold tollwayref11_Check chk
  by_cases hl : s.length = 12
  · rw [if_pos (by omega), rsum_eq s (by omega), Option.bind_some]
    cases hd : s.all dg with
    | false => rfl
    | true =>
      have hb := ls_bound s 0 (List.all_eq_true.1 hd)
      rw [if_pos rfl, if_neg (by omega), Int.tmod_eq_emod_of_nonneg hb.1]
      by_cases h0 : ls 0 s % 10 = 0
      · rw [if_pos h0, if_pos (by simp [hl, h0])]
      · rw [if_neg h0, if_neg (by simp [h0])]
  · rw [if_neg (by omega), if_neg (by simp [hl])]
theorem chk_zero {s : List UInt8} (h : chk s = 0) : (∀ c ∈ s, dg c = true) ∧ s.length = 12 ∧ ls 0 s % 10 = 0 := by
  unfold chk at h
  split at h
  · rename_i hc
    simp only [Bool.and_eq_true, decide_eq_true_eq, List.all_eq_true] at hc
    exact ⟨hc.1.1, hc.1.2, hc.2⟩
  · cases h
theorem chk_of {s : List UInt8} (h1 : ∀ c ∈ s, dg c = true) (h2 : s.length = 12) (h3 : ls 0 s % 10 = 0) : chk s = 0 := by
  unfold chk
  rw [if_pos]
  simp only [Bool.and_eq_true, decide_eq_true_eq, List.all_eq_true]
  exact ⟨⟨h1, h2⟩, h3⟩
theorem chk_or (s : List UInt8) : chk s = 0 ∨ chk s = 18 := by
  unfold chk; split <;> simp
end Go.Proofs.YtalobodhbbkgdaaDoor.Av
