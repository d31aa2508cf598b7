/- What money.Split computes: the choices, and the whole. -/
import Derived.Test.YteljonodbkkckaaDoorPSpB
set_option linter.unusedVariables false
set_option linter.unusedSimpArgs false
namespace Go.Proofs.YteljonodbkkckaaDoor.Av
open Go Go.Proofs
theorem total_eq (l : List Int) (hl : l.length ≤ 4096) (h0 : ∀ x ∈ l, 0 ≤ x) (hs : l.sum ≤ 1125899906842624) : money_total l = some l.sum := by
  unfold money_total
  have key := lp_inv (step := money_total_L1_step l) (fun s : Int × Nat => s.2 ≤ l.length ∧ s.1 = (l.take s.2).sum) (fun s => l.length - s.2) (fun r => r = l.sum) ?_ (0, 0) ⟨Nat.zero_le _, by simp⟩
  · obtain ⟨r, h, rfl⟩ := key; rw [h]; rfl
  rintro ⟨v, k⟩ ⟨h1, h2⟩
  dsimp only at h1 h2
  unfold money_total_L1_step
  dsimp only
  by_cases hk : k < l.length
  · obtain ⟨x, hx⟩ : ∃ x, l[k]? = some x := ⟨_, List.getElem?_eq_getElem hk⟩
    have := sp_take_sum l k x hx
    have := sp_take_le l h0 (k + 1)
    have := sp_sum_nonneg (l.take k) (fun x hx => h0 x (List.mem_of_mem_take hx))
    have := h0 x (List.mem_of_getElem? hx)
    rw [if_pos (show ((k : Int) < (l.length : Int)) by omega), hx, Option.bind_some, if_pos (inR_i64.2 (by omega)), if_pos (inR_i64.2 (by omega))]
    exact .inl ⟨_, rfl, ⟨hk, by dsimp only; omega⟩, by dsimp only; omega⟩
  · rw [if_neg (show ¬ ((k : Int) < (l.length : Int)) by omega)]
    have : l.take k = l := List.take_of_length_le (by omega)
    rw [this] at h2
    exact .inr ⟨_, rfl, h2⟩
theorem split_L159 (o : List Int × List Int) (v18 : Int) (b0 : List Int) (u : List Bool) (hu : u.length = o.2.length) (hl : o.2.length ≤ 1024) :
    ∃ r, lp (money_Split_L159_step o v18 b0 u) (-1, 0) = some r ∧ ((∀ j : Nat, u[j]? ≠ some false) ∨ ∃ a : Nat, r = a ∧ SpBest o.2 u a) := by
  refine lp_inv (fun s : Int × Nat => s.2 ≤ o.2.length ∧ ((s.1 = -1 ∧ ∀ j : Nat, j < s.2 → u[j]? ≠ some false) ∨ ∃ (a : Nat) (x : Int), s.1 = a ∧ a < s.2 ∧ o.2[a]? = some x ∧ u[a]? = some false ∧
      ∀ (j : Nat) y, j < s.2 → o.2[j]? = some y → u[j]? = some false → y ≤ x ∧ (y = x → a ≤ j))) (fun s => o.2.length - s.2) _ ?_ _ ⟨Nat.zero_le _, .inl ⟨rfl, fun j h => by simp at h⟩⟩
  rintro ⟨v, k⟩ ⟨h1, h2⟩
  dsimp only at h1 h2
  unfold money_Split_L159_step
  dsimp only
  by_cases hk : k < o.2.length
  · obtain ⟨x, hx⟩ : ∃ x, o.2[k]? = some x := ⟨_, List.getElem?_eq_getElem hk⟩
    obtain ⟨b, hb⟩ : ∃ x, u[k]? = some x := ⟨_, List.getElem?_eq_getElem (by omega)⟩
    have hi : InR .i64 ((k : Int) + 1) := inR_i64.2 (by omega)
    rw [if_pos (show ((k : Int) < (o.2.length : Int)) by omega), hx, Option.bind_some, hb, Option.bind_some]
    have keep : (∃ (a : Nat) (x : Int), v = a ∧ a < k ∧ o.2[a]? = some x ∧ u[a]? = some false ∧
      ∀ (j : Nat) y, j < k → o.2[j]? = some y → u[j]? = some false → y ≤ x ∧ (y = x → a ≤ j)) → ∀ xa, v ≥ 0 → o.2[v.toNat]? = some xa → (b = false → x ≤ xa) → ∃ (a : Nat) (x : Int), v = a ∧ a < k + 1 ∧ o.2[a]? = some x ∧ u[a]? = some false ∧
      ∀ (j : Nat) y, j < k + 1 → o.2[j]? = some y → u[j]? = some false → y ≤ x ∧ (y = x → a ≤ j) := by
      rintro ⟨a, z, rfl, ha, hz, hua, hall⟩ xa _ hxa hbx
      rw [Int.toNat_natCast, hz] at hxa
      obtain rfl := Option.some.inj hxa
      refine ⟨a, z, rfl, by omega, hz, hua, fun j y hj hy huj => ?_⟩
      rcases Nat.lt_or_ge j k with h | h
      · exact hall j y h hy huj
      · have : j = k := by omega
        subst this
        rw [hx] at hy; obtain rfl := Option.some.inj hy
        rw [hb] at huj; obtain rfl := Option.some.inj huj
        exact ⟨hbx rfl, fun _ => by omega⟩
    by_cases hbt : b = true
    · rw [if_pos hbt, if_pos hi]
      refine .inl ⟨_, rfl, ⟨hk, ?_⟩, by dsimp only; omega⟩
      subst hbt
      rcases h2 with ⟨rfl, h2⟩ | h2
      · refine .inl ⟨rfl, fun j hj => ?_⟩
        rcases Nat.lt_or_ge j k with h | h
        · exact h2 j h
        · have : j = k := by dsimp only at hj; omega
          subst this; rw [hb]; decide
      · obtain ⟨a, z, rfl, ha, hz, hua, hall⟩ := h2
        exact .inr (keep ⟨a, z, rfl, ha, hz, hua, hall⟩ z (by omega) (by rw [Int.toNat_natCast]; exact hz) (fun h => by cases h))
    · have hbf : b = false := by cases b <;> simp_all
      subst hbf
      rw [if_neg hbt]
      have fresh : (∀ (j : Nat) y, j < k → o.2[j]? = some y → u[j]? = some false → y < x) → ∃ (a : Nat) (x : Int), (k : Int) = a ∧ a < k + 1 ∧ o.2[a]? = some x ∧ u[a]? = some false ∧
          ∀ (j : Nat) y, j < k + 1 → o.2[j]? = some y → u[j]? = some false → y ≤ x ∧ (y = x → a ≤ j) := fun hall => by
        refine ⟨k, x, rfl, by omega, hx, hb, fun j y hj hy huj => ?_⟩
        rcases Nat.lt_or_ge j k with h | h
        · have := hall j y h hy huj
          exact ⟨by omega, fun _ => by omega⟩
        · have : j = k := by omega
          subst this
          rw [hx] at hy; obtain rfl := Option.some.inj hy
          exact ⟨Int.le_refl _, fun _ => Nat.le_refl _⟩
      rcases h2 with ⟨rfl, h2⟩ | h2
      · rw [if_pos (by decide : (-1 : Int) < 0), if_pos hi]
        exact .inl ⟨_, rfl, ⟨hk, .inr (fresh fun j y hj hy huj => absurd huj (h2 j hj))⟩, by dsimp only; omega⟩
      · obtain ⟨a, z, rfl, ha, hz, hua, hall⟩ := h2
        rw [if_neg (by omega : ¬ ((a : Int) < 0)), if_pos (by omega : (0 : Int) ≤ a), Int.toNat_natCast, hz, Option.bind_some]
        by_cases hgt : x > z
        · rw [if_pos hgt, if_pos hi]
          refine .inl ⟨_, rfl, ⟨hk, .inr (fresh fun j y hj hy huj => ?_)⟩, by dsimp only; omega⟩
          have := (hall j y hj hy huj).1
          omega
        · rw [if_neg hgt, if_pos hi]
          exact .inl ⟨_, rfl, ⟨hk, .inr (keep ⟨a, z, rfl, ha, hz, hua, hall⟩ z (by omega) (by rw [Int.toNat_natCast]; exact hz) (fun _ => by omega))⟩, by dsimp only; omega⟩
  · rw [if_neg (show ¬ ((k : Int) < (o.2.length : Int)) by omega)]
    refine .inr ⟨_, rfl, ?_⟩
    rcases h2 with ⟨-, h2⟩ | ⟨a, z, rfl, ha, hz, hua, hall⟩
    · refine .inl fun j => ?_
      rcases Nat.lt_or_ge j k with h | h
      · exact h2 j h
      · rw [List.getElem?_eq_none (by omega)]; simp
    · refine .inr ⟨a, rfl, z, hz, hua, fun j y hy huj => hall j y ?_ hy huj⟩
      have := (List.getElem?_eq_some_iff.1 hy).1
      omega
theorem split_L76 (q r : List Int) (L W : Int) (hl : r.length = q.length) (hn : q.length ≤ 1024) (hW : 0 < W) (hL : L ≤ 1125899906842624) (hq : ∀ (i : Nat) x, q[i]? = some x → 0 ≤ x ∧ x ≤ 1125899906842624)
    (hr : ∀ (i : Nat) x, r[i]? = some x → 0 ≤ x ∧ x < W) (hs : r.sum = L * W) (hL0 : 0 ≤ L) :
    ∃ o, lp (money_Split_L76_step (q, r)) (L, q, List.replicate q.length false) = some o ∧ SpInv q r L 0 o.1 o.2 := by
  refine lp_inv (fun s : Int × List Int × List Bool => 0 ≤ s.1 ∧ SpInv q r L s.1 s.2.1 s.2.2) (fun s => s.1.toNat) _ ?_ _ ⟨hL0, spInv_start q r L⟩
  rintro ⟨left, parts, u⟩ ⟨h0, h⟩
  dsimp only at h0 h
  unfold money_Split_L76_step
  dsimp only
  by_cases hp : left > 0
  · rw [if_pos hp]
    have hu : u.length = r.length := by rw [h.lu, hl]
    obtain ⟨i, x, hi, hui⟩ := sp_some hu W hW h hr hs hp
    obtain ⟨o, ho, hc⟩ := split_L159 (q, r) left parts u hu (by dsimp only; omega)
    rw [ho, Option.bind_some]
    rcases hc with hc | ⟨a, rfl, hb⟩
    · exact absurd hui (hc i)
    dsimp only at hb
    obtain ⟨y, hy, hy0⟩ := spBest_pos W hW h hl hr hs hp hb
    have ha : a < q.length := by rw [← hl]; exact (List.getElem?_eq_some_iff.1 hy).1
    obtain ⟨p, hpa⟩ : ∃ x, parts[a]? = some x := ⟨_, List.getElem?_eq_getElem (by rw [h.lp]; exact ha)⟩
    obtain ⟨qa, hqa⟩ : ∃ x, q[a]? = some x := ⟨_, List.getElem?_eq_getElem ha⟩
    have hua : u[a]? = some false := by obtain ⟨_, _, h, _⟩ := hb; exact h
    have e := h.el a qa false hqa hua
    rw [hpa] at e
    have e := Option.some.inj e
    have := hq a qa hqa
    have := h.ct
    simp only [Bool.false_eq_true, if_false] at e
    rw [if_pos (by omega : (0 : Int) ≤ a), Int.toNat_natCast, hpa, Option.bind_some, if_pos (inR_i64.2 (by omega)), hua, Option.bind_some, if_pos (inR_i64.2 (by omega))]
    exact .inl ⟨_, rfl, ⟨by dsimp only; omega, spInv_step h hb hy hy0 hpa⟩, by dsimp only; omega⟩
  · rw [if_neg hp]
    have : left = 0 := by omega
    subst this
    exact .inr ⟨_, rfl, h⟩
/-- What money.Split gives back. -/
def SplitR (a : Int) (ws : List Int) (r : List Int × Int) : Prop :=
  (¬ (0 ≤ a ∧ a ≤ 1125899906842624) ∧ r = ([], 13)) ∨ ((0 ≤ a ∧ a ≤ 1125899906842624) ∧ ((ws.length > 1024 ∧ r = ([], 3)) ∨ (ws.length ≤ 1024 ∧ ((¬ (wok ws ∧ 0 < ws.sum) ∧ r = ([], 1)) ∨ ((wok ws ∧ 0 < ws.sum) ∧ r.2 = 0 ∧
    ∃ u, SpInv (ws.map fun w => a * w / ws.sum) (ws.map fun w => a * w % ws.sum) (a - (ws.map fun w => a * w / ws.sum).sum) 0 r.1 u)))))
/-- The facts on the quotients and the rests. -/
theorem sp_facts (a : Int) (ws : List Int) (ha : 0 ≤ a ∧ a ≤ 1125899906842624) (hw : wok ws) (h0 : 0 < ws.sum) :
    (∀ (i : Nat) x, (ws.map fun w => a * w / ws.sum)[i]? = some x → 0 ≤ x ∧ x ≤ 1125899906842624) ∧ (∀ (i : Nat) x, (ws.map fun w => a * w % ws.sum)[i]? = some x → 0 ≤ x ∧ x < ws.sum) ∧
    (ws.map fun w => a * w % ws.sum).sum = (a - (ws.map fun w => a * w / ws.sum).sum) * ws.sum ∧ 0 ≤ a - (ws.map fun w => a * w / ws.sum).sum ∧ 0 ≤ (ws.map fun w => a * w / ws.sum).sum := by
  have hr : ∀ (i : Nat) x, (ws.map fun w => a * w % ws.sum)[i]? = some x → 0 ≤ x ∧ x < ws.sum := fun i x h => by
    rw [List.getElem?_map] at h
    cases hx : ws[i]? with
    | none => rw [hx] at h; cases h
    | some w =>
      rw [hx] at h
      obtain rfl := Option.some.inj h
      exact ⟨Int.emod_nonneg _ (by omega), Int.emod_lt_of_pos _ h0⟩
  have hq : ∀ (i : Nat) x, (ws.map fun w => a * w / ws.sum)[i]? = some x → 0 ≤ x ∧ x ≤ 1125899906842624 := fun i x h => by
    rw [List.getElem?_map] at h
    cases hx : ws[i]? with
    | none => rw [hx] at h; cases h
    | some w =>
      rw [hx] at h
      obtain rfl := Option.some.inj h
      exact (sp_div a w ws.sum ha ⟨hw.1 w (List.mem_of_getElem? hx), sp_get_le ws hw.1 i w hx⟩ ⟨h0, hw.2⟩).2
  have hs := sp_rests a ws.sum ws
  have hs' : (ws.map fun w => a * w % ws.sum).sum = (a - (ws.map fun w => a * w / ws.sum).sum) * ws.sum := by
    rw [Int.sub_mul, Int.mul_comm _ ws.sum, Int.mul_comm _ ws.sum, Int.mul_comm ws.sum a]; omega
  refine ⟨hq, hr, hs', ?_, sp_sum_nonneg _ fun x hx => ?_⟩
  · have h1 := sp_sum_nonneg (ws.map fun w => a * w % ws.sum) (fun x hx => by
      obtain ⟨i, hi⟩ := List.getElem?_of_mem hx
      exact (hr i x hi).1)
    rw [hs'] at h1
    exact Int.nonneg_of_mul_nonneg_left h1 h0
  · obtain ⟨i, hi⟩ := List.getElem?_of_mem hx
    exact (hq i x hi).1
theorem split_eq (a : Int) (ws : List Int) : ∃ r, money_Split a ws = some r ∧ SplitR a ws r := by
  unfold money_Split
  by_cases h0 : a < 0
  · rw [if_pos h0]; exact ⟨_, rfl, .inl ⟨by omega, rfl⟩⟩
  rw [if_neg h0, fits_eq, Option.bind_some]
  cases hf : fit a with
  | false =>
    rw [if_neg (by decide)]
    refine ⟨_, rfl, .inl ⟨fun h => ?_, rfl⟩⟩
    rw [fit_iff.2 (by omega)] at hf; cases hf
  | true =>
  have ha := fit_iff.1 hf
  have ha : 0 ≤ a ∧ a ≤ 1125899906842624 := by omega
  rw [if_pos rfl]
  by_cases hl : ws.length > 1024
  · rw [if_pos (by omega)]; exact ⟨_, rfl, .inr ⟨ha, .inl ⟨hl, rfl⟩⟩⟩
  have hl : ws.length ≤ 1024 := by omega
  rw [if_neg (by omega)]
  obtain ⟨o, ho, hc⟩ := split_L6 a ws hl
  rw [ho, Option.bind_some]
  rcases hc with ⟨rfl, hn⟩ | ⟨rfl, hw⟩
  · exact ⟨_, rfl, .inr ⟨ha, .inr ⟨hl, .inl ⟨fun h => hn h.1, rfl⟩⟩⟩⟩
  dsimp only
  by_cases hz : ws.sum = 0
  · rw [if_pos hz]; exact ⟨_, rfl, .inr ⟨ha, .inr ⟨hl, .inl ⟨fun h => by omega, rfl⟩⟩⟩⟩
  have hp : 0 < ws.sum := by have := sp_sum_nonneg ws hw.1; omega
  obtain ⟨f1, f2, f3, f4, f5⟩ := sp_facts a ws ha hw hp
  rw [if_neg hz, if_pos (by omega), split_L25 a ws.sum ws hl ha ⟨hp, hw.2⟩ (fun w h => ⟨hw.1 w h, by obtain ⟨i, hi⟩ := List.getElem?_of_mem h; exact sp_get_le ws hw.1 i w hi⟩), Option.bind_some]
  dsimp only
  rw [total_eq _ (by simp; omega) (fun x hx => by obtain ⟨i, hi⟩ := List.getElem?_of_mem hx; exact (f1 i x hi).1) (by omega), Option.bind_some, if_pos (inR_i64.2 (by omega))]
  obtain ⟨o, ho, hI⟩ := split_L76 (ws.map fun w => a * w / ws.sum) (ws.map fun w => a * w % ws.sum) _ ws.sum (by simp) (by simpa using hl) hp (by omega) f1 f2 f3 f4
  rw [List.length_map] at ho
  rw [ho, Option.bind_some]
  exact ⟨_, rfl, .inr ⟨ha, .inr ⟨hl, .inr ⟨⟨hw, hp⟩, rfl, o.2, hI⟩⟩⟩⟩
end Go.Proofs.YteljonodbkkckaaDoor.Av
