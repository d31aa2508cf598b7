/- How amounts are formatted and parsed. -/
import Derived.Test.YteljonodbkkckaaDoorM1
import Derived.Test.YteljonodbkkckaaDoorAvPl
import Derived.Lib.ItoaNum
set_option linter.unusedVariables false
set_option linter.unusedSimpArgs false
set_option maxHeartbeats 1000000
namespace Go.Proofs.YteljonodbkkckaaDoor.Av
open Go Go.Proofs
theorem lp_inv {σ ρ : Type} {step : σ → Option (σ ⊕ ρ)} (I : σ → Prop) (m : σ → Nat) (Q : ρ → Prop)
    (h : ∀ s, I s → (∃ s', step s = some (.inl s') ∧ I s' ∧ m s' < m s) ∨ (∃ r, step s = some (.inr r) ∧ Q r)) (s : σ) (hs : I s) : ∃ r, lp step s = some r ∧ Q r := by
  generalize hn : m s = n
  induction n using Nat.strongRecOn generalizing s with
  | ind n ih =>
    rcases h s hs with ⟨s', h1, h2, h3⟩ | ⟨r, h1, h2⟩
    · rw [lp_go h1]; exact ih _ (by omega) s' h2 rfl
    · exact ⟨r, lp_end h1, h2⟩
def dg (c : UInt8) : Bool := decide (48 ≤ c.toNat) && decide (c.toNat ≤ 57)
theorem dg_iff {c : UInt8} : dg c = true ↔ 48 ≤ c.toNat ∧ c.toNat ≤ 57 := by simp [dg]
theorem ofNat_toNat {d : Nat} (h : d < 10) : (UInt8.ofNat (48 + d)).toNat = 48 + d := by
  rw [UInt8.toNat_ofNat']; omega
theorem ofNat_dg {d : Nat} (h : d < 10) : dg (UInt8.ofNat (48 + d)) = true := by
  rw [dg_iff, ofNat_toNat h]; omega
/-- the number that digits denote -/
def nmN (l : List UInt8) : Nat := l.foldl (fun v c => 10 * v + (c.toNat - 48)) 0
theorem nmN_snoc (l : List UInt8) (c : UInt8) : nmN (l ++ [c]) = 10 * nmN l + (c.toNat - 48) := by simp [nmN, List.foldl_append]
/-- what Parse reckons: it stops behind the greatest amount -/
def pv (l : List UInt8) : Nat := l.foldl (fun v c => if v ≤ 1125899906842624 then 10 * v + (c.toNat - 48) else v) 0
theorem pv_snoc (l : List UInt8) (c : UInt8) : pv (l ++ [c]) = if pv l ≤ 1125899906842624 then 10 * pv l + (c.toNat - 48) else pv l := by
  unfold pv
  rw [List.foldl_append]; rfl
theorem snoc_ind {P : List UInt8 → Prop} (h0 : P []) (h1 : ∀ l c, P l → P (l ++ [c])) (l : List UInt8) : P l := by
  have key : ∀ n (l : List UInt8), l.length = n → P l := fun n => by
    induction n with
    | zero => intro l hl; rw [List.length_eq_zero_iff.1 hl]; exact h0
    | succ n ih =>
      intro l hl
      have hne : l ≠ [] := by intro h; rw [h] at hl; simp at hl
      rw [← List.dropLast_concat_getLast hne]
      exact h1 _ _ (ih _ (by simp [hl]))
  exact key _ l rfl
theorem pv_spec (l : List UInt8) : (nmN l ≤ 1125899906842624 → pv l = nmN l) ∧ (1125899906842624 < nmN l → 1125899906842624 < pv l) := by
  refine snoc_ind (P := fun l => (nmN l ≤ 1125899906842624 → pv l = nmN l) ∧ (1125899906842624 < nmN l → 1125899906842624 < pv l)) ⟨fun _ => rfl, fun h => by simp [nmN] at h⟩ (fun l c ih => ?_) l
  rw [nmN_snoc, pv_snoc]
  obtain ⟨h1, h2⟩ := ih
  by_cases h : nmN l ≤ 1125899906842624
  · have e := h1 h
    rw [if_pos (by omega)]
    exact ⟨fun _ => by omega, fun _ => by omega⟩
  · have e := h2 (by omega)
    rw [if_neg (by omega)]
    exact ⟨fun _ => by omega, fun _ => e⟩
theorem pv_bound (l : List UInt8) (hd : ∀ c ∈ l, dg c = true) : pv l ≤ 11258999068426249 := by
  refine snoc_ind (P := fun l => (∀ c ∈ l, dg c = true) → pv l ≤ 11258999068426249) (fun _ => by simp [pv]) (fun l c ih h => ?_) l hd
  have := ih (fun x hx => h x (List.mem_append_left _ hx))
  have hc := dg_iff.1 (h c (List.mem_append_right _ (List.mem_singleton.2 rfl)))
  rw [pv_snoc]
  split <;> omega
theorem nm_dec : ∀ m : Nat, nmN (Go.Lib.decDigits m) = m := fun m => by
  induction m using Nat.strongRecOn with
  | ind m ih =>
    rw [Go.Lib.decDigits]
    split
    · rename_i h
      show 10 * 0 + ((UInt8.ofNat (48 + m)).toNat - 48) = m
      rw [ofNat_toNat h]; omega
    · rename_i h
      rw [nmN_snoc, ih (m / 10) (by omega), ofNat_toNat (by omega)]; omega
theorem dec_dg : ∀ m : Nat, ∀ c ∈ Go.Lib.decDigits m, dg c = true := fun m => by
  induction m using Nat.strongRecOn with
  | ind m ih =>
    intro c hc
    rw [Go.Lib.decDigits] at hc
    split at hc
    · rename_i h
      rw [List.mem_singleton] at hc; subst hc; exact ofNat_dg h
    · rename_i h
      rw [List.mem_append, List.mem_singleton] at hc
      rcases hc with hc | rfl
      · exact ih (m / 10) (by omega) c hc
      · exact ofNat_dg (by omega)
theorem dec_ne (m : Nat) : 1 ≤ (Go.Lib.decDigits m).length := by
  rw [Go.Lib.decDigits]; split <;> simp
/-- a numeral begins with 0 only if it is 0 -/
theorem dec_head : ∀ m : Nat, (Go.Lib.decDigits m).length = 1 ∨ ∃ c l, Go.Lib.decDigits m = c :: l ∧ c.toNat ≠ 48 := fun m => by
  induction m using Nat.strongRecOn with
  | ind m ih =>
    rw [Go.Lib.decDigits]
    split
    · exact .inl rfl
    · rename_i h
      rcases Nat.lt_or_ge (m / 10) 10 with h2 | h2
      · rw [Go.Lib.decDigits_one h2]
        exact .inr ⟨_, _, rfl, by rw [ofNat_toNat h2]; omega⟩
      · rcases ih (m / 10) (by omega) with h1 | ⟨c, l, h1, h3⟩
        · exfalso
          rw [Go.Lib.decDigits, dif_neg (by omega)] at h1
          have := dec_ne (m / 10 / 10)
          simp only [List.length_append, List.length_cons, List.length_nil] at h1
          omega
        · rw [h1]; exact .inr ⟨c, l ++ [_], rfl, h3⟩
theorem dec_nm (a : List UInt8) (hd : ∀ c ∈ a, dg c = true) (h0 : a ≠ []) (hh : a.length = 1 ∨ ∀ c, a[0]? = some c → c.toNat ≠ 48) : Go.Lib.decDigits (nmN a) = a := by
  refine snoc_ind (P := fun a => (∀ c ∈ a, dg c = true) → a ≠ [] → (a.length = 1 ∨ ∀ c, a[0]? = some c → c.toNat ≠ 48) → Go.Lib.decDigits (nmN a) = a ∧ ((∀ c, a[0]? = some c → c.toNat ≠ 48) → 1 ≤ nmN a)) (fun _ h => absurd rfl h) (fun l c ih hd _ hh => ?_) a hd h0 hh |>.1
  have hc := dg_iff.1 (hd c (List.mem_append_right _ (List.mem_singleton.2 rfl)))
  have hcc : UInt8.ofNat (48 + (c.toNat - 48)) = c := by
    apply UInt8.toNat_inj.1
    rw [ofNat_toNat (by omega)]; omega
  rw [nmN_snoc]
  cases l with
  | nil =>
    have e : nmN [] = 0 := rfl
    rw [e]
    refine ⟨?_, fun h => ?_⟩
    · rw [Go.Lib.decDigits_one (by omega), Nat.mul_zero, Nat.zero_add, hcc]; rfl
    · have := h c rfl; omega
  | cons x l =>
    have hx : x.toNat ≠ 48 := by
      rcases hh with hh | hh
      · simp at hh
      · exact hh x rfl
    obtain ⟨h1, h2⟩ := ih (fun y hy => hd y (List.mem_append_left _ hy)) (by simp) (.inr fun y hy => by simp at hy; subst hy; exact hx)
    have h3 := h2 (fun y hy => by simp at hy; subst hy; exact hx)
    refine ⟨?_, fun _ => by omega⟩
    rw [Go.Lib.decDigits, dif_neg (by omega), show (10 * nmN (x :: l) + (c.toNat - 48)) / 10 = nmN (x :: l) by omega, h1, show (10 * nmN (x :: l) + (c.toNat - 48)) % 10 = c.toNat - 48 by omega, hcc]
/-- the digits of a text with a point ahead of its last two bytes -/
def ds (t : List UInt8) : List UInt8 := t.take (t.length - 3) ++ t.drop (t.length - 2)
def body (neg : Bool) (t : List UInt8) : Int × Int :=
  if t.length < 4 ∨ t[t.length - 3]? ≠ some 46 ∨ (t[0]? = some 48 ∧ t.length > 4) ∨ (ds t).all dg = false ∨ (neg = true ∧ pv (ds t) = 0) then (0, 5)
  else if pv (ds t) > 1125899906842624 then (0, 13) else (if neg = true then 0 - (pv (ds t) : Int) else (pv (ds t) : Int), 0)
def parseF (s : List UInt8) : Int × Int := if s[0]? = some 45 then body true (s.drop 1) else body false s
theorem ds_form (a : List UInt8) (p d e : UInt8) : ds (a ++ [p, d, e]) = a ++ [d, e] := by
  unfold ds
  have h1 : (a ++ [p, d, e]).length = a.length + 3 := by simp
  rw [h1, show a.length + 3 - 3 = a.length by omega, List.take_left, show a.length + 3 - 2 = a.length + 1 by omega, List.drop_append]
  simp
theorem form_of (t : List UInt8) (h : 4 ≤ t.length) : ∃ a p d e, t = a ++ [p, d, e] ∧ 1 ≤ a.length := by
  refine ⟨t.take (t.length - 3), t[t.length - 3], t[t.length - 2], t[t.length - 1], ?_, by simp; omega⟩
  have h1 := List.take_append_drop (t.length - 3) t
  rw [List.drop_eq_getElem_cons (by omega), List.drop_eq_getElem_cons (by omega), List.drop_eq_getElem_cons (by omega), List.drop_of_length_le (by omega)] at h1
  have e1 : t.length - 3 + 1 = t.length - 2 := by omega
  have e2 : t.length - 2 + 1 = t.length - 1 := by omega
  simp only [e1, e2] at h1
  exact h1.symm
theorem get_form {a : List UInt8} {p d e : UInt8} : (a ++ [p, d, e])[a.length]? = some p ∧ (a ++ [p, d, e])[a.length + 1]? = some d ∧ (a ++ [p, d, e])[a.length + 2]? = some e ∧ (∀ k, k < a.length → (a ++ [p, d, e])[k]? = a[k]?) ∧ (a ++ [p, d, e]).length = a.length + 3 := by
  refine ⟨by rw [List.getElem?_append_right (Nat.le_refl _), Nat.sub_self]; rfl, by rw [List.getElem?_append_right (by omega), show a.length + 1 - a.length = 1 by omega]; rfl, by rw [List.getElem?_append_right (by omega), show a.length + 2 - a.length = 2 by omega]; rfl, fun k hk => List.getElem?_append_left hk, by simp⟩
theorem parse_loop (a : List UInt8) (p d e : UInt8) (hl : a.length ≤ 3000) :
    ∃ r, lp (money_Parse_L92_step (a ++ [p, d, e])) (0, 0) = some r ∧ ((r = .inl () ∧ (a ++ [d, e]).all dg = false) ∨ (r = .inr (pv (a ++ [d, e]) : Int) ∧ (a ++ [d, e]).all dg = true)) := by
  obtain ⟨g0, g1, g2, gk, gl⟩ := get_form (a := a) (p := p) (d := d) (e := e)
  have bad : ∀ (l : List UInt8) (c : UInt8), c ∈ l → dg c = false → l.all dg = false := fun l c hc h => by
    rw [List.all_eq_false]; exact ⟨c, hc, by rw [h]; decide⟩
  -- one byte that is looked at
  have one : ∀ (k : Nat) (c : UInt8) (l : List UInt8), k < a.length + 3 → k ≠ a.length → (a ++ [p, d, e])[k]? = some c → (∀ x ∈ l, dg x = true) → c ∈ a ++ [d, e] →
      (money_Parse_L92_step (a ++ [p, d, e]) ((pv l : Int), k) = some (.inl ((pv (l ++ [c]) : Int), k + 1)) ∧ dg c = true) ∨ (money_Parse_L92_step (a ++ [p, d, e]) ((pv l : Int), k) = some (.inr (.inl ())) ∧ (a ++ [d, e]).all dg = false) := by
    intro k c l hk hne hc hall hmem
    unfold money_Parse_L92_step
    dsimp only
    have hb := pv_bound l hall
    rw [gl, if_pos (by omega), if_pos (inR_i64.2 (by omega)), if_neg (by omega), hc, Option.bind_some]
    by_cases h48 : (c.toNat : Int) < 48
    · rw [if_pos h48]; exact .inr ⟨rfl, bad _ c hmem (by
        cases h : dg c with
        | false => rfl
        | true => have := dg_iff.1 h; omega)⟩
    rw [if_neg h48]
    by_cases h57 : (c.toNat : Int) > 57
    · rw [if_pos h57]; exact .inr ⟨rfl, bad _ c hmem (by
        cases h : dg c with
        | false => rfl
        | true => have := dg_iff.1 h; omega)⟩
    rw [if_neg h57]
    refine .inl ⟨?_, dg_iff.2 (by omega)⟩
    rw [pv_snoc]
    by_cases hm : pv l ≤ 1125899906842624
    · rw [if_pos (by omega), if_pos hm, if_pos (inR_i64.2 (by omega)), if_pos (inR_u8.2 (by omega)), if_pos (inR_i64.2 (by omega)), if_pos (inR_i64.2 (by omega)), if_pos (inR_i64.2 (by omega))]
      congr 3
      omega
    · rw [if_neg (by omega), if_neg hm, if_pos (inR_i64.2 (by omega))]
  refine lp_inv (fun s : Int × Nat => (s.2 ≤ a.length ∧ s.1 = pv (a.take s.2) ∧ ∀ c ∈ a.take s.2, dg c = true) ∨ (s.2 = a.length + 1 ∧ s.1 = pv a ∧ ∀ c ∈ a, dg c = true) ∨ (s.2 = a.length + 2 ∧ s.1 = pv (a ++ [d]) ∧ ∀ c ∈ a ++ [d], dg c = true) ∨ (s.2 = a.length + 3 ∧ s.1 = pv (a ++ [d, e]) ∧ ∀ c ∈ a ++ [d, e], dg c = true))
    (fun s => a.length + 3 - s.2) _ ?_ (0, 0) (.inl ⟨Nat.zero_le _, rfl, by simp⟩)
  rintro ⟨v, k⟩ h
  dsimp only at h
  rcases h with ⟨h1, rfl, h3⟩ | ⟨rfl, rfl, h3⟩ | ⟨rfl, rfl, h3⟩ | ⟨rfl, rfl, h3⟩
  · by_cases hk : k < a.length
    · have hx : a[k]? = some a[k] := List.getElem?_eq_getElem hk
      have ht : a.take (k + 1) = a.take k ++ [a[k]] := by rw [List.take_add_one, hx]; rfl
      rcases one k a[k] (a.take k) (by omega) (by omega) (by rw [gk k hk]; exact hx) h3 (List.mem_append_left _ (List.getElem_mem hk)) with ⟨h, hd⟩ | ⟨h, hb⟩
      · refine .inl ⟨_, h, .inl ⟨hk, by dsimp only; rw [ht], ?_⟩, by dsimp only; omega⟩
        dsimp only
        rw [ht]
        intro c hc
        rw [List.mem_append, List.mem_singleton] at hc
        rcases hc with hc | rfl
        · exact h3 c hc
        · exact hd
      · exact .inr ⟨_, h, .inl ⟨rfl, hb⟩⟩
    · have : k = a.length := by omega
      subst this
      rw [List.take_length] at h3 ⊢
      refine .inl ⟨((pv a : Int), a.length + 1), ?_, .inr (.inl ⟨rfl, rfl, h3⟩), by dsimp only; omega⟩
      unfold money_Parse_L92_step
      dsimp only
      rw [gl, if_pos (by omega), if_pos (inR_i64.2 (by omega)), if_pos (by omega), if_pos (inR_i64.2 (by omega))]
  · rcases one (a.length + 1) d a (by omega) (by omega) g1 h3 (by simp) with ⟨h, hd⟩ | ⟨h, hb⟩
    · refine .inl ⟨_, h, .inr (.inr (.inl ⟨rfl, rfl, fun c hc => ?_⟩)), by dsimp only; omega⟩
      rw [List.mem_append, List.mem_singleton] at hc
      rcases hc with hc | rfl
      · exact h3 c hc
      · exact hd
    · exact .inr ⟨_, h, .inl ⟨rfl, hb⟩⟩
  · rcases one (a.length + 2) e (a ++ [d]) (by omega) (by omega) g2 h3 (by simp) with ⟨h, hd⟩ | ⟨h, hb⟩
    · have ee : a ++ [d] ++ [e] = a ++ [d, e] := by simp
      rw [ee] at h
      refine .inl ⟨_, h, .inr (.inr (.inr ⟨rfl, rfl, fun c hc => ?_⟩)), by dsimp only; omega⟩
      rw [← ee, List.mem_append, List.mem_singleton] at hc
      rcases hc with hc | rfl
      · exact h3 c hc
      · exact hd
    · exact .inr ⟨_, h, .inl ⟨rfl, hb⟩⟩
  · refine .inr ⟨.inr (pv (a ++ [d, e]) : Int), ?_, .inr ⟨rfl, List.all_eq_true.2 h3⟩⟩
    unfold money_Parse_L92_step
    dsimp only
    rw [gl, if_neg (by omega)]
end Go.Proofs.YteljonodbkkckaaDoor.Av
