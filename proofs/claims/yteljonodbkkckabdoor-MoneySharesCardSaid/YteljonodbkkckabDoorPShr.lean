/- The law MoneyShares holds. -/
import Derived.Test.YteljonodbkkckabDoorPSpC
import Derived.Test.YteljonodbkkckabDoorE3
set_option linter.unusedVariables false
set_option linter.unusedSimpArgs false
namespace Go.Proofs.YteljonodbkkckabDoor.Av
open Go Go.Proofs
theorem ratio_pos (T w W : Int) (hT : 0 ≤ T ∧ T ≤ 1125899906842624) (hw : 0 ≤ w ∧ w ≤ W) (hW : 0 < W ∧ W ≤ 1125899906842624) :
    money_Ratio T w W 1 = some (T * w / W, 0) ∧ money_Ratio T w W 2 = some ((if T * w % W > 0 then T * w / W + 1 else T * w / W), 0) := by
  have hd := (sp_div T w W hT hw hW).2
  have h1 : absZ T = T := by unfold absZ; rw [if_neg (by omega)]
  have h2 : absZ w = w := by unfold absZ; rw [if_neg (by omega)]
  have h3 : absZ W = W := by unfold absZ; rw [if_neg (by omega)]
  have hf : fit T = true := fit_iff.2 (by omega)
  have hp : plus T w W = true := by
    unfold plus
    rw [decide_eq_false (by omega : ¬ T < 0), decide_eq_false (by omega : ¬ w < 0), decide_eq_false (by omega : ¬ W < 0)]; rfl
  have p1 : T * w ≤ 1125899906842624 * W := Int.le_trans (Int.mul_le_mul_of_nonneg_right hT.2 hw.1) (Int.mul_le_mul_of_nonneg_left hw.2 (by decide))
  have hup : T * w % W > 0 → T * w / W + 1 ≤ 1125899906842624 := fun h => by
    have a1 := Int.mul_ediv_add_emod (T * w) W
    have : T * w / W < 1125899906842624 := by
      apply Classical.byContradiction
      intro hn
      have he : T * w / W = 1125899906842624 := by omega
      rw [he] at a1
      omega
    omega
  constructor
  · rw [ratio_eq T w W 1 (by omega) (by omega) (by omega)]
    unfold ratioR
    rw [h1, h2, h3, if_neg (by rw [hf]; decide), if_neg (by decide), if_neg (by omega)]
    have e : rq 1 (T * w / W) (T * w % W) W = T * w / W := rfl
    dsimp only
    rw [e, if_neg (by omega), hp, if_pos rfl]
  · rw [ratio_eq T w W 2 (by omega) (by omega) (by omega)]
    unfold ratioR
    rw [h1, h2, h3, if_neg (by rw [hf]; decide), if_neg (by decide), if_neg (by omega)]
    have e : rq 2 (T * w / W) (T * w % W) W = if T * w % W > 0 then T * w / W + 1 else T * w / W := rfl
    dsimp only
    rw [e, hp, if_pos rfl, if_neg]
    split
    · have := hup ‹_›; omega
    · omega
theorem shares_L8 (T : Int) (ws : List Int) (r : List Int × Int) (hl : ws.length ≤ 40) (hw : wok ws) : lp (tollwaylaw03_MoneyShares_L8_step T ws r) (0, 0) = some ws.sum := by
  have key := lp_inv (step := tollwaylaw03_MoneyShares_L8_step T ws r) (fun s : Int × Nat => s.2 ≤ ws.length ∧ s.1 = (ws.take s.2).sum) (fun s => ws.length - s.2) (fun r => r = ws.sum) ?_ (0, 0) ⟨Nat.zero_le _, by simp⟩
  · obtain ⟨r, h, rfl⟩ := key; exact h
  rintro ⟨v, k⟩ ⟨h1, h2⟩
  dsimp only at h1 h2
  unfold tollwaylaw03_MoneyShares_L8_step
  dsimp only
  by_cases hk : k < ws.length
  · obtain ⟨x, hx⟩ : ∃ x, ws[k]? = some x := ⟨_, List.getElem?_eq_getElem hk⟩
    have := sp_take_sum ws k x hx
    have := sp_take_le ws hw.1 (k + 1)
    have := sp_sum_nonneg (ws.take k) (fun x hx => hw.1 x (List.mem_of_mem_take hx))
    have := hw.1 x (List.mem_of_getElem? hx)
    have := hw.2
    rw [if_pos (show ((k : Int) < (ws.length : Int)) by omega), hx, Option.bind_some, if_pos (inR_i64.2 (by omega)), if_pos (inR_i64.2 (by omega))]
    exact .inl ⟨_, rfl, ⟨hk, by dsimp only; omega⟩, by dsimp only; omega⟩
  · rw [if_neg (show ¬ ((k : Int) < (ws.length : Int)) by omega)]
    have : ws.take k = ws := List.take_of_length_le (by omega)
    rw [this] at h2
    exact .inr ⟨_, rfl, h2⟩
theorem shares_L88 (T : Int) (ws : List Int) (r : List Int × Int) (o8 v7 : Int) (i : Nat) (xi wi : Int) (r79 r81 : Int × Int) (hl : ws.length ≤ 40) (hr : r.1.length = ws.length) (hi : i < ws.length) (hwi : ws[i]? = some wi)
    (hord : ∀ (k : Nat) wk pk, k < i → ws[k]? = some wk → r.1[k]? = some pk → (wk ≥ wi → pk ≥ xi) ∧ (wk < wi → pk ≤ xi)) :
    lp (tollwaylaw03_MoneyShares_L88_step T ws r o8 v7 i xi r79 r81) 0 = some (.inr ()) := by
  have key := lp_inv (step := tollwaylaw03_MoneyShares_L88_step T ws r o8 v7 i xi r79 r81) (fun s : Nat => s ≤ i) (fun s => i - s) (fun r => r = .inr ()) ?_ 0 (Nat.zero_le _)
  · obtain ⟨r, h, rfl⟩ := key; exact h
  intro k h1
  unfold tollwaylaw03_MoneyShares_L88_step
  by_cases hk : k < i
  · obtain ⟨wk, hwk⟩ : ∃ x, ws[k]? = some x := ⟨_, List.getElem?_eq_getElem (by omega)⟩
    obtain ⟨pk, hpk⟩ : ∃ x, r.1[k]? = some x := ⟨_, List.getElem?_eq_getElem (by omega)⟩
    obtain ⟨o1, o2⟩ := hord k wk pk hk hwk hpk
    have hz : InR .i64 ((k : Int) + 1) := inR_i64.2 (by omega)
    rw [if_pos (show ((k : Int) < (i : Int)) by omega), hwk, Option.bind_some, hwi, Option.bind_some, hpk]
    by_cases hge : wk ≥ wi
    · have := o1 hge
      rw [if_pos hge, Option.bind_some, if_neg (by omega), if_neg (by omega), if_pos hz]
      exact .inl ⟨_, rfl, hk, by omega⟩
    · have := o2 (by omega)
      rw [if_neg hge, if_pos (by omega), Option.bind_some, if_neg (by omega), if_pos hz]
      exact .inl ⟨_, rfl, hk, by omega⟩
  · rw [if_neg (show ¬ ((k : Int) < (i : Int)) by omega)]
    exact .inr ⟨_, rfl, rfl⟩
theorem shares_L19 (T : Int) (ws : List Int) (r : List Int × Int) (u : List Bool) (hl : ws.length ≤ 40) (hT : 0 ≤ T ∧ T ≤ 1125899906842624) (hw : wok ws) (hp : 0 < ws.sum)
    (h : SpInv (ws.map fun w => T * w / ws.sum) (ws.map fun w => T * w % ws.sum) (T - (ws.map fun w => T * w / ws.sum).sum) 0 r.1 u) :
    lp (tollwaylaw03_MoneyShares_L19_step T ws r ws.sum) (0, 0) = some (.inr T) := by
  have hr : r.1.length = ws.length := by rw [h.lp, List.length_map]
  have hsum : r.1.sum = T := by have := h.sm; have := h.ct; omega
  have hpart : ∀ (i : Nat) w x, ws[i]? = some w → r.1[i]? = some x → T * w / ws.sum ≤ x ∧ x ≤ (if T * w % ws.sum > 0 then T * w / ws.sum + 1 else T * w / ws.sum) ∧ 0 ≤ x := fun i w x h1 h2 => by
    have a := sp_near T ws.sum ws h h1 h2
    have b := (sp_div T w ws.sum hT ⟨hw.1 w (List.mem_of_getElem? h1), sp_get_le ws hw.1 i w h1⟩ ⟨hp, hw.2⟩).2
    exact ⟨a.1, a.2, by omega⟩
  have h0 : ∀ x ∈ r.1, 0 ≤ x := fun x hx => by
    obtain ⟨i, hi⟩ := List.getElem?_of_mem hx
    have hlt := (List.getElem?_eq_some_iff.1 hi).1
    exact (hpart i _ x (List.getElem?_eq_getElem (by omega : i < ws.length)) hi).2.2
  have key := lp_inv (step := tollwaylaw03_MoneyShares_L19_step T ws r ws.sum) (fun s : Int × Nat => s.2 ≤ ws.length ∧ s.1 = (r.1.take s.2).sum) (fun s => ws.length - s.2) (fun o => o = .inr T) ?_ (0, 0) ⟨Nat.zero_le _, by simp⟩
  · obtain ⟨r, h, rfl⟩ := key; exact h
  rintro ⟨v, k⟩ ⟨h1, h2⟩
  dsimp only at h1 h2
  unfold tollwaylaw03_MoneyShares_L19_step
  dsimp only
  by_cases hk : k < ws.length
  · obtain ⟨w, hwk⟩ : ∃ x, ws[k]? = some x := ⟨_, List.getElem?_eq_getElem hk⟩
    obtain ⟨x, hx⟩ : ∃ x, r.1[k]? = some x := ⟨_, List.getElem?_eq_getElem (by omega)⟩
    obtain ⟨e1, e2⟩ := ratio_pos T w ws.sum hT ⟨hw.1 w (List.mem_of_getElem? hwk), sp_get_le ws hw.1 k w hwk⟩ ⟨hp, hw.2⟩
    obtain ⟨n1, n2, n3⟩ := hpart k w x hwk hx
    have t1 := sp_take_sum r.1 k x hx
    have t2 := sp_take_le r.1 h0 (k + 1)
    have t3 := sp_sum_nonneg (r.1.take k) (fun x hx => h0 x (List.mem_of_mem_take hx))
    rw [if_pos (show ((k : Int) < (r.1.length : Int)) by omega), hx, Option.bind_some, hwk, Option.bind_some, e1, Option.bind_some, e2, Option.bind_some]
    dsimp only
    rw [if_pos rfl, if_pos rfl, if_neg (by omega), if_neg (by omega), if_pos (inR_i64.2 (by omega)),
      shares_L88 T ws r ws.sum v k x w _ _ hl hr hk hwk (fun j wk pk hj hwj hpj => sp_ord T ws.sum hp hT.1 ws h hj hwk hwj hx hpj), Option.bind_some]
    dsimp only
    rw [if_pos (inR_i64.2 (by omega))]
    exact .inl ⟨_, rfl, ⟨hk, by dsimp only; omega⟩, by dsimp only; omega⟩
  · rw [if_neg (show ¬ ((k : Int) < (r.1.length : Int)) by omega)]
    have : r.1.take k = r.1 := List.take_of_length_le (by omega)
    rw [this, hsum] at h2
    exact .inr ⟨_, rfl, by rw [h2]⟩
theorem tollwaylaw03_MoneyShares_true (T : Int) (ws : List Int) {p q : Prop} (_ : p) (_ : q) : tollwaylaw03_MoneyShares T ws = some true := by
  unfold tollwaylaw03_MoneyShares
  by_cases hl : (ws.length : Int) > 40
  · rw [if_pos hl]; rfl
  rw [if_neg hl]
  have hl : ws.length ≤ 40 := by omega
  obtain ⟨r, hr, hc⟩ := split_eq T ws
  rw [hr, Option.bind_some]
  rcases hc with ⟨-, rfl⟩ | ⟨hT, ⟨-, rfl⟩ | ⟨-, ⟨-, rfl⟩ | ⟨⟨hw, hp⟩, h2, u, h⟩⟩⟩
  · rfl
  · rfl
  · rfl
  · have hlen : r.1.length = ws.length := by rw [h.lp, List.length_map]
    rw [if_pos h2, if_pos (by omega), shares_L8 T ws r hl hw, Option.bind_some, shares_L19 T ws r u hl hT hw hp h, Option.bind_some]
    dsimp only
    rw [if_pos rfl]; rfl
end Go.Proofs.YteljonodbkkckabDoor.Av
