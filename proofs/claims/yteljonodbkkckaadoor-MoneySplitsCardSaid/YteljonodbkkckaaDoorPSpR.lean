/- The reference's Split gives what money.Split gives; the law MoneySplits. -/
import Derived.Test.YteljonodbkkckaaDoorPSpC
import Derived.Test.YteljonodbkkckaaDoorPRef
import Derived.Test.YteljonodbkkckaaDoorE3
set_option linter.unusedVariables false
set_option linter.unusedSimpArgs false
namespace Go.Proofs.YteljonodbkkckaaDoor.Av
open Go Go.Proofs
theorem sp_incl (u : List Bool) : ∀ (v : List Bool), u.length = v.length → (∀ i : Nat, u[i]? = some true → v[i]? = some true) → u.count true = v.count true → u = v := by
  induction u with
  | nil => intro v hl _ _; simp at hl; exact (List.length_eq_zero_iff.1 hl.symm).symm
  | cons b u ih =>
    intro v hl h hc
    cases v with
    | nil => simp at hl
    | cons c v =>
      have hl' : u.length = v.length := by simpa using hl
      have h' : ∀ i : Nat, u[i]? = some true → v[i]? = some true := fun i hi => by simpa using h (i + 1) (by simpa using hi)
      have hle : ∀ (u v : List Bool), u.length = v.length → (∀ i : Nat, u[i]? = some true → v[i]? = some true) → u.count true ≤ v.count true := fun u => by
        induction u with
        | nil => intro v _ _; simp
        | cons b u ih =>
          intro v hl h
          cases v with
          | nil => simp at hl
          | cons c v =>
            have := ih v (by simpa using hl) (fun i hi => by simpa using h (i + 1) (by simpa using hi))
            have h0 := h 0
            simp only [List.getElem?_cons_zero, Option.some.injEq] at h0
            cases b <;> cases c <;> simp_all <;> omega
      have h0 := h 0
      simp only [List.getElem?_cons_zero, Option.some.injEq] at h0
      cases b with
      | true =>
        obtain rfl := h0 rfl
        rw [ih v hl' h' (by simpa using hc)]
      | false =>
        cases c with
        | false => rw [ih v hl' h' (by simpa using hc)]
        | true =>
          have := hle u v hl' h'
          simp at hc
          omega
theorem spInv_uniq {q r : List Int} {L : Int} {p p' : List Int} {u u' : List Bool} (hl : r.length = q.length) (h : SpInv q r L 0 p u) (h' : SpInv q r L 0 p' u') : p = p' := by
  have hc : u.count true = u'.count true := by have := h.ct; have := h'.ct; omega
  have hu : u = u' := by
    by_cases h1 : ∀ i : Nat, u[i]? = some true → u'[i]? = some true
    · exact sp_incl u u' (by rw [h.lu, h'.lu]) h1 hc
    · by_cases h2 : ∀ i : Nat, u'[i]? = some true → u[i]? = some true
      · exact (sp_incl u' u (by rw [h.lu, h'.lu]) h2 hc.symm).symm
      · exfalso
        obtain ⟨i, hi⟩ := Classical.not_forall.1 h1
        obtain ⟨k, hk⟩ := Classical.not_forall.1 h2
        obtain ⟨i1, i2⟩ := Classical.not_imp.1 hi
        obtain ⟨k1, k2⟩ := Classical.not_imp.1 hk
        have bi : i < u.length := (List.getElem?_eq_some_iff.1 i1).1
        have bk : k < u'.length := (List.getElem?_eq_some_iff.1 k1).1
        rw [h.lu] at bi
        rw [h'.lu] at bk
        have oth : ∀ (w : List Bool) (j : Nat), j < w.length → w[j]? ≠ some true → w[j]? = some false := fun w j hj hn => by
          rw [List.getElem?_eq_getElem hj] at hn ⊢
          cases hb : w[j] with
          | true => rw [hb] at hn; exact absurd rfl hn
          | false => rfl
        have i3 := oth u' i (by rw [h'.lu]; exact bi) i2
        have k3 := oth u k (by rw [h.lu]; exact bk) k2
        obtain ⟨x, hx⟩ : ∃ x, r[i]? = some x := ⟨_, List.getElem?_eq_getElem (by omega)⟩
        obtain ⟨y, hy⟩ : ∃ x, r[k]? = some x := ⟨_, List.getElem?_eq_getElem (by omega)⟩
        have a := h.cl i k x y hx hy i1 k3
        have b := h'.cl k i y x hy hx k1 i3
        have e : y = x := by omega
        have := a.2 e; have := b.2 e.symm
        omega
  subst hu
  apply List.ext_getElem?
  intro i
  rcases Nat.lt_or_ge i q.length with hi | hi
  · have e := h.el i _ _ (List.getElem?_eq_getElem hi) (List.getElem?_eq_getElem (by rw [h.lu]; exact hi))
    have e' := h'.el i _ _ (List.getElem?_eq_getElem hi) (List.getElem?_eq_getElem (by rw [h.lu]; exact hi))
    rw [e, e']
  · rw [List.getElem?_eq_none (by rw [h.lp]; exact hi), List.getElem?_eq_none (by rw [h'.lp]; exact hi)]
theorem splitR_uniq {a : Int} {ws : List Int} {r s : List Int × Int} (h : SplitR a ws r) (g : SplitR a ws s) : r = s := by
  rcases h with ⟨h1, rfl⟩ | ⟨h1, ⟨h2, rfl⟩ | ⟨h2, ⟨h3, rfl⟩ | ⟨h3, h4, u, h5⟩⟩⟩ <;> rcases g with ⟨g1, rfl⟩ | ⟨g1, ⟨g2, rfl⟩ | ⟨g2, ⟨g3, rfl⟩ | ⟨g3, g4, v, g5⟩⟩⟩
  all_goals first
    | rfl
    | exact absurd g1 h1
    | exact absurd h1 g1
    | exact absurd h2 (by omega)
    | exact absurd g3 h3
    | exact absurd h3 g3
    | skip
  have := spInv_uniq (by simp) h5 g5
  exact Prod.ext this (by rw [h4, g4])
theorem rsplit_L6 (a : Int) (ws : List Int) : tollwayref03_Split_L6_step a ws = money_Split_L6_step a ws := rfl
theorem rsplit_L24 (a : Int) (ws : List Int) (hl : ws.length ≤ 1024) (ha : 0 ≤ a ∧ a ≤ 1125899906842624) (hw : wok ws) (hp : 0 < ws.sum) :
    lp (tollwayref03_Split_L24_step a ws ws.sum) (a, 0, [], []) = some (a - (ws.map fun w => a * w / ws.sum).sum, ws.map (fun w => a * w / ws.sum), ws.map (fun w => a * w % ws.sum)) := by
  obtain ⟨f1, f2, f3, f4, f5⟩ := sp_facts a ws ha hw hp
  have g0 : ∀ x ∈ (ws.map fun w => a * w / ws.sum), 0 ≤ x := fun x hx => by obtain ⟨i, hi⟩ := List.getElem?_of_mem hx; exact (f1 i x hi).1
  have key := lp_inv (step := tollwayref03_Split_L24_step a ws ws.sum) (fun s : Int × Nat × List Int × List Int => s.2.1 ≤ ws.length ∧ s.1 = a - s.2.2.1.sum ∧ s.2.2.1 = (ws.map fun w => a * w / ws.sum).take s.2.1 ∧ s.2.2.2 = (ws.map fun w => a * w % ws.sum).take s.2.1) (fun s => ws.length - s.2.1)
    (fun r => r = (a - (ws.map fun w => a * w / ws.sum).sum, ws.map (fun w => a * w / ws.sum), ws.map (fun w => a * w % ws.sum))) ?_ (a, 0, [], []) ⟨Nat.zero_le _, by simp, by simp, by simp⟩
  · obtain ⟨r, h, rfl⟩ := key; exact h
  rintro ⟨v, k, b0, b1⟩ ⟨h1, h2, h3, h4⟩
  dsimp only at h1 h2 h3 h4
  unfold tollwayref03_Split_L24_step
  dsimp only
  by_cases hk : k < ws.length
  · obtain ⟨x, hx⟩ : ∃ x, ws[k]? = some x := ⟨_, List.getElem?_eq_getElem hk⟩
    have hm := hw.1 x (List.mem_of_getElem? hx)
    have hm2 := sp_get_le ws hw.1 k x hx
    have hw2 := hw.2
    have hd := (sp_div a x ws.sum ha ⟨hm, hm2⟩ ⟨hp, hw.2⟩).2
    have hdiv : tollwayref03_divide a x ws.sum = some (a * x / ws.sum, a * x % ws.sum, true) := by
      rcases divide_eq a x ws.sum ha (by omega) (by omega) with ⟨_, h⟩ | ⟨h, _⟩
      · omega
      · exact h
    have eq1 : (ws.map fun w => a * w / ws.sum)[k]? = some (a * x / ws.sum) := by rw [List.getElem?_map, hx]; rfl
    have er1 : (ws.map fun w => a * w % ws.sum)[k]? = some (a * x % ws.sum) := by rw [List.getElem?_map, hx]; rfl
    have t1 := sp_take_sum _ k _ eq1
    have t2 := sp_take_le _ g0 (k + 1)
    have t3 := sp_sum_nonneg ((ws.map fun w => a * w / ws.sum).take k) (fun x hx => g0 x (List.mem_of_mem_take hx))
    have l0 : b0.length ≤ 1024 := by rw [h3, List.length_take]; omega
    have l1 : b1.length ≤ 1024 := by rw [h4, List.length_take]; omega
    rw [if_pos (show ((k : Int) < (ws.length : Int)) by omega), if_pos (inR_u64.2 (by omega)), hx, Option.bind_some, if_pos (inR_u64.2 (by omega)), if_pos (inR_u64.2 (by omega)), hdiv, Option.bind_some]
    dsimp only
    rw [if_pos (inR_i64.2 (by omega)), if_pos (by omega), if_pos (by omega), if_pos (inR_i64.2 (by rw [h2, h3]; omega)), if_pos (inR_i64.2 (by omega))]
    refine .inl ⟨_, rfl, ⟨hk, ?_, ?_, ?_⟩, by dsimp only; omega⟩
    · dsimp only
      rw [h2, List.sum_append]; simp; omega
    · dsimp only
      rw [List.take_add_one, eq1, h3]; rfl
    · dsimp only
      rw [List.take_add_one, er1, h4]; rfl
  · rw [if_neg (show ¬ ((k : Int) < (ws.length : Int)) by omega)]
    rw [List.take_of_length_le (by simp; omega)] at h3 h4
    exact .inr ⟨_, rfl, by rw [h2, h3, h4]⟩
theorem rsplit_L107 (v : Int) (b2 b3 : List Int) (hl : b3.length ≤ 1024) (h1 : 1 ≤ b3.length) :
    ∃ o, lp (tollwayref03_Split_L107_step v b2 b3) (0, 1) = some o ∧ ∃ (a : Nat) (y : Int), o = a ∧ b3[a]? = some y ∧ ∀ (j : Nat) z, b3[j]? = some z → z ≤ y ∧ (z = y → a ≤ j) := by
  refine lp_inv (fun s : Int × Nat => s.2 ≤ b3.length ∧ ∃ (a : Nat) (y : Int), s.1 = a ∧ a < s.2 ∧ b3[a]? = some y ∧ ∀ (j : Nat) z, j < s.2 → b3[j]? = some z → z ≤ y ∧ (z = y → a ≤ j)) (fun s => b3.length - s.2) _ ?_ _ ⟨h1, 0, b3[0], rfl, Nat.one_pos, List.getElem?_eq_getElem h1, fun j z hj hz => ?_⟩
  · rintro ⟨at', k⟩ ⟨h2, a, y, e, ha, hy, hall⟩
    dsimp only at h2 e ha hall
    subst e
    unfold tollwayref03_Split_L107_step
    dsimp only
    by_cases hk : k < b3.length
    · obtain ⟨x, hx⟩ : ∃ x, b3[k]? = some x := ⟨_, List.getElem?_eq_getElem hk⟩
      have hi : InR .i64 ((k : Int) + 1) := inR_i64.2 (by omega)
      rw [if_pos (show ((k : Int) < (b3.length : Int)) by omega), hx, Option.bind_some, if_pos (by omega : (0 : Int) ≤ a), Int.toNat_natCast, hy, Option.bind_some]
      by_cases hg : x > y
      · rw [if_pos hg, if_pos hi]
        refine .inl ⟨_, rfl, ⟨hk, k, x, rfl, by dsimp only; omega, hx, fun j z hj hz => ?_⟩, by dsimp only; omega⟩
        dsimp only at hj
        rcases Nat.lt_or_ge j k with h | h
        · have := (hall j z h hz).1
          exact ⟨by omega, fun _ => by omega⟩
        · have : j = k := by omega
          subst this
          rw [hx] at hz; obtain rfl := Option.some.inj hz
          exact ⟨Int.le_refl _, fun _ => Nat.le_refl _⟩
      · rw [if_neg hg, if_pos hi]
        refine .inl ⟨_, rfl, ⟨hk, a, y, rfl, by dsimp only; omega, hy, fun j z hj hz => ?_⟩, by dsimp only; omega⟩
        dsimp only at hj
        rcases Nat.lt_or_ge j k with h | h
        · exact hall j z h hz
        · have : j = k := by omega
          subst this
          rw [hx] at hz; obtain rfl := Option.some.inj hz
          exact ⟨by omega, fun _ => by omega⟩
    · rw [if_neg (show ¬ ((k : Int) < (b3.length : Int)) by omega)]
      refine .inr ⟨_, rfl, a, y, rfl, hy, fun j z hz => hall j z ?_ hz⟩
      have := (List.getElem?_eq_some_iff.1 hz).1
      omega
  · have : j = 0 := by dsimp only at hj; omega
    subst this
    rw [List.getElem?_eq_getElem h1] at hz
    obtain rfl := Option.some.inj hz
    exact ⟨Int.le_refl _, fun _ => Nat.le_refl _⟩
theorem sp_some_pos {r : List Int} {u : List Bool} (hl : u.length = r.length) {q : List Int} {L left : Int} {parts : List Int} (W : Int) (hW : 0 < W) (h : SpInv q r L left parts u) (hr : ∀ (i : Nat) x, r[i]? = some x → 0 ≤ x ∧ x < W) (hs : r.sum = L * W) (hp : 0 < left) : ∃ (i : Nat) (x : Int), r[i]? = some x ∧ u[i]? = some false ∧ 0 < x := by
  apply Classical.byContradiction
  intro hn
  have f := sp_few W r u hl (fun i y hy => by have := hr i y hy; omega) (fun i y hy hu => by
    rcases Int.lt_or_le 0 y with h | h
    · exact absurd ⟨i, y, hy, hu, h⟩ hn
    · exact h)
  have c := h.ct
  rw [hs] at f
  have : L * W ≤ (u.count true : Nat) * W := by rw [Int.mul_comm ((u.count true : Nat) : Int)]; exact f
  have := Int.le_of_mul_le_mul_right this hW
  omega
theorem rsplit_L51 (q r : List Int) (L W : Int) (hl : r.length = q.length) (hn : q.length ≤ 1024) (hW : 0 < W) (hL : L ≤ 1125899906842624) (hq : ∀ (i : Nat) x, q[i]? = some x → 0 ≤ x ∧ x ≤ 1125899906842624)
    (hr : ∀ (i : Nat) x, r[i]? = some x → 0 ≤ x ∧ x < W) (hs : r.sum = L * W) (hL0 : 0 ≤ L) :
    ∃ o, lp tollwayref03_Split_L51_step (L, q, r) = some o ∧ ∃ u, SpInv q r L 0 o.1 u := by
  refine lp_inv (fun s : Int × List Int × List Int => 0 ≤ s.1 ∧ ∃ u, SpInv q r L s.1 s.2.1 u ∧ s.2.2.length = q.length ∧ ∀ (i : Nat) x b, r[i]? = some x → u[i]? = some b → s.2.2[i]? = some (if b = true then 0 else x)) (fun s => s.1.toNat) _ ?_ _
    ⟨hL0, _, spInv_start q r L, hl, fun i x b h1 h2 => ?_⟩
  · rintro ⟨left, parts, m⟩ ⟨h0, u, h, hm, hmask⟩
    dsimp only at h0 h hm hmask
    unfold tollwayref03_Split_L51_step
    dsimp only
    by_cases hp : left > 0
    · rw [if_pos hp]
      have hu : u.length = r.length := by rw [h.lu, hl]
      obtain ⟨i, x, hi, hui, hx0⟩ := sp_some_pos hu W hW h hr hs hp
      have hib := (List.getElem?_eq_some_iff.1 hi).1
      obtain ⟨o, ho, a, y, rfl, hy, hall⟩ := rsplit_L107 left parts m (by omega) (by omega)
      rw [ho, Option.bind_some]
      have ha : a < q.length := by rw [← hm]; exact (List.getElem?_eq_some_iff.1 hy).1
      obtain ⟨ra, hra⟩ : ∃ x, r[a]? = some x := ⟨_, List.getElem?_eq_getElem (by omega)⟩
      obtain ⟨ua, hua⟩ : ∃ x, u[a]? = some x := ⟨_, List.getElem?_eq_getElem (by omega)⟩
      have e1 := hmask a ra ua hra hua
      rw [hy] at e1
      have e1 := Option.some.inj e1
      have e2 := (hall i _ (hmask i x false hi hui)).1
      simp only [Bool.false_eq_true, if_false] at e2
      have huf : ua = false := by
        cases ua with
        | false => rfl
        | true => simp only [if_true] at e1; omega
      subst huf
      simp only [Bool.false_eq_true, if_false] at e1
      subst e1
      have hb : SpBest r u a := ⟨y, hra, hua, fun j z hz hzu => by
        have := hall j _ (hmask j z false hz hzu)
        simpa using this⟩
      obtain ⟨p, hpa⟩ : ∃ x, parts[a]? = some x := ⟨_, List.getElem?_eq_getElem (by rw [h.lp]; exact ha)⟩
      obtain ⟨qa, hqa⟩ : ∃ x, q[a]? = some x := ⟨_, List.getElem?_eq_getElem ha⟩
      have e := h.el a qa false hqa hua
      rw [hpa] at e
      have e := Option.some.inj e
      have := hq a qa hqa
      have := h.ct
      simp only [Bool.false_eq_true, if_false] at e
      rw [if_pos (by omega : (0 : Int) ≤ a), Int.toNat_natCast, hpa, Option.bind_some, if_pos (inR_i64.2 (by omega)), hy, Option.bind_some, if_pos (inR_i64.2 (by omega))]
      refine .inl ⟨_, rfl, ⟨by dsimp only; omega, _, spInv_step h hb hra (by omega) hpa, by simpa using hm, ?_⟩, by dsimp only; omega⟩
      intro j z b hz hzu
      dsimp only
      rw [List.getElem?_set] at hzu ⊢
      by_cases ej : a = j
      · subst ej
        rw [if_pos rfl, if_pos (by omega)] at hzu
        obtain rfl := Option.some.inj hzu
        rw [if_pos rfl, if_pos (by omega)]; rfl
      · rw [if_neg ej] at hzu ⊢
        exact hmask j z b hz hzu
    · rw [if_neg hp]
      have : left = 0 := by omega
      subst this
      exact .inr ⟨_, rfl, u, h⟩
  · rw [List.getElem?_replicate] at h2
    split at h2
    · obtain rfl := Option.some.inj h2
      simpa using h1
    · cases h2
theorem rsplit_eq (a : Int) (ws : List Int) : ∃ r, tollwayref03_Split a ws = some r ∧ SplitR a ws r := by
  unfold tollwayref03_Split
  by_cases h0 : a < 0
  · rw [if_pos h0]; exact ⟨_, rfl, .inl ⟨by omega, rfl⟩⟩
  rw [if_neg h0, rfits_eq, Option.bind_some]
  cases hf : fit a with
  | false =>
    rw [if_neg (by decide)]
    refine ⟨_, rfl, .inl ⟨fun h => ?_, rfl⟩⟩
    rw [fit_iff.2 (by omega)] at hf; cases hf
  | true =>
  have ha := fit_iff.1 hf
  have ha : 0 ≤ a ∧ a ≤ 1125899906842624 := by omega
  rw [if_pos rfl]
  by_cases hl : ws.length > 1024
  · rw [if_pos (by omega)]; exact ⟨_, rfl, .inr ⟨ha, .inl ⟨hl, rfl⟩⟩⟩
  have hl : ws.length ≤ 1024 := by omega
  rw [if_neg (by omega), rsplit_L6]
  obtain ⟨o, ho, hc⟩ := split_L6 a ws hl
  rw [ho, Option.bind_some]
  rcases hc with ⟨rfl, hn⟩ | ⟨rfl, hw⟩
  · exact ⟨_, rfl, .inr ⟨ha, .inr ⟨hl, .inl ⟨fun h => hn h.1, rfl⟩⟩⟩⟩
  dsimp only
  by_cases hz : ws.sum = 0
  · rw [if_pos hz]; exact ⟨_, rfl, .inr ⟨ha, .inr ⟨hl, .inl ⟨fun h => by omega, rfl⟩⟩⟩⟩
  have hp : 0 < ws.sum := by have := sp_sum_nonneg ws hw.1; omega
  obtain ⟨f1, f2, f3, f4, f5⟩ := sp_facts a ws ha hw hp
  rw [if_neg hz, rsplit_L24 a ws hl ha hw hp, Option.bind_some]
  dsimp only
  obtain ⟨o, ho, u, hI⟩ := rsplit_L51 (ws.map fun w => a * w / ws.sum) (ws.map fun w => a * w % ws.sum) _ ws.sum (by simp) (by simpa using hl) hp (by omega) f1 f2 f3 f4
  rw [ho, Option.bind_some]
  exact ⟨_, rfl, .inr ⟨ha, .inr ⟨hl, .inr ⟨⟨hw, hp⟩, rfl, u, hI⟩⟩⟩⟩
theorem same_refl (l : List Int) (hl : l.length ≤ 1100) : tollwaylaw03_same l l = some true := by
  unfold tollwaylaw03_same
  rw [if_pos rfl]
  have key := lp_inv (step := tollwaylaw03_same_L2_step l l) (fun s : Nat => s ≤ l.length) (fun s => l.length - s) (fun r => r = .inr ()) ?_ 0 (Nat.zero_le _)
  · obtain ⟨r, h, rfl⟩ := key; rw [h]; rfl
  intro k h1
  unfold tollwaylaw03_same_L2_step
  by_cases hk : k < l.length
  · obtain ⟨x, hx⟩ : ∃ x, l[k]? = some x := ⟨_, List.getElem?_eq_getElem hk⟩
    rw [if_pos (show ((k : Int) < (l.length : Int)) by omega), hx, Option.bind_some, Option.bind_some, if_pos rfl, if_pos (inR_i64.2 (by omega))]
    exact .inl ⟨_, rfl, hk, by omega⟩
  · rw [if_neg (show ¬ ((k : Int) < (l.length : Int)) by omega)]
    exact .inr ⟨_, rfl, rfl⟩
theorem splitR_len {a : Int} {ws : List Int} {r : List Int × Int} (h : SplitR a ws r) : r.1.length ≤ 1100 := by
  rcases h with ⟨-, rfl⟩ | ⟨-, ⟨-, rfl⟩ | ⟨h2, ⟨-, rfl⟩ | ⟨-, -, u, h⟩⟩⟩
  · exact Nat.zero_le _
  · exact Nat.zero_le _
  · exact Nat.zero_le _
  · rw [h.lp, List.length_map]; omega
theorem tollwaylaw03_MoneySplits_true (T : Int) (ws : List Int) {p q : Prop} (_ : p) (_ : q) : tollwaylaw03_MoneySplits T ws = some true := by
  unfold tollwaylaw03_MoneySplits
  by_cases hl : (ws.length : Int) > 1100
  · rw [if_pos hl]; rfl
  rw [if_neg hl]
  obtain ⟨r, hr, hc⟩ := split_eq T ws
  obtain ⟨s, hs, hd⟩ := rsplit_eq T ws
  obtain rfl := splitR_uniq hc hd
  rw [hr, Option.bind_some, hs, Option.bind_some, same_refl _ (splitR_len hc), Option.bind_some, if_pos rfl, if_pos rfl]
  rfl
end Go.Proofs.YteljonodbkkckaaDoor.Av
