/- Parse and Show in closed form; an amount is parsed from its format, and what is parsed has that format. -/
import Derived.Test.YteljonodbkkckaaDoorPSh
set_option linter.unusedVariables false
set_option linter.unusedSimpArgs false
set_option maxHeartbeats 1000000
namespace Go.Proofs.YteljonodbkkckaaDoor.Av
open Go Go.Proofs
theorem u8_is {c : UInt8} {n : Nat} (hn : n < 256) : c = UInt8.ofNat n ↔ c.toNat = n := by
  constructor
  · rintro rfl; rw [UInt8.toNat_ofNat']; omega
  · intro h
    apply UInt8.toNat_inj.1
    rw [UInt8.toNat_ofNat']; omega
theorem body_form (neg : Bool) (a : List UInt8) (p d e c : UInt8) (h1 : 1 ≤ a.length) (hc : a[0]? = some c) :
    body neg (a ++ [p, d, e]) = if p.toNat ≠ 46 ∨ (c.toNat = 48 ∧ a.length > 1) ∨ (a ++ [d, e]).all dg = false ∨ (neg = true ∧ pv (a ++ [d, e]) = 0) then (0, 5)
      else if pv (a ++ [d, e]) > 1125899906842624 then (0, 13) else (if neg = true then 0 - (pv (a ++ [d, e]) : Int) else (pv (a ++ [d, e]) : Int), 0) := by
  obtain ⟨g0, g1, g2, gk, gl⟩ := get_form (a := a) (p := p) (d := d) (e := e)
  have k1 : (some p ≠ some (46 : UInt8)) ↔ p.toNat ≠ 46 := by
    rw [ne_eq, Option.some.injEq, show (46 : UInt8) = UInt8.ofNat 46 from rfl, u8_is (by decide)]
  have k2 : (some c = some (48 : UInt8)) ↔ c.toNat = 48 := by
    rw [Option.some.injEq, show (48 : UInt8) = UInt8.ofNat 48 from rfl, u8_is (by decide)]
  unfold body
  rw [ds_form, gl, show a.length + 3 - 3 = a.length by omega, g0, gk 0 h1, hc]
  have e1 : (a.length + 3 < 4 ∨ some p ≠ some (46 : UInt8) ∨ (some c = some (48 : UInt8) ∧ a.length + 3 > 4) ∨ (a ++ [d, e]).all dg = false ∨ (neg = true ∧ pv (a ++ [d, e]) = 0)) ↔
      (p.toNat ≠ 46 ∨ (c.toNat = 48 ∧ a.length > 1) ∨ (a ++ [d, e]).all dg = false ∨ (neg = true ∧ pv (a ++ [d, e]) = 0)) := by
    rw [k1, k2]
    constructor
    · rintro (h | h | ⟨h, g⟩ | h)
      · omega
      · exact .inl h
      · exact .inr (.inl ⟨h, by omega⟩)
      · exact .inr (.inr h)
    · rintro (h | ⟨h, g⟩ | h)
      · exact .inr (.inl h)
      · exact .inr (.inr (.inl ⟨h, by omega⟩))
      · exact .inr (.inr (.inr h))
  by_cases hh : (p.toNat ≠ 46 ∨ (c.toNat = 48 ∧ a.length > 1) ∨ (a ++ [d, e]).all dg = false ∨ (neg = true ∧ pv (a ++ [d, e]) = 0))
  · rw [if_pos (e1.2 hh), if_pos hh]
  · rw [if_neg (fun h => hh (e1.1 h)), if_neg hh]
theorem body_short (neg : Bool) (t : List UInt8) (h : t.length < 4) : body neg t = (0, 5) := by
  unfold body; rw [if_pos (.inl h)]
theorem L16_eq (s : List UInt8) : money_Parse_L16_step s = money_Parse_L92_step (List.drop 1 s) := rfl
theorem parse_eq (s : List UInt8) (hs : s.length ≤ 3000) : money_Parse s = some (parseF s) := by
  unfold money_Parse parseF
  rw [L16_eq]
  by_cases h0 : (s.length : Int) > 0
  · obtain ⟨x, hx⟩ : ∃ x, s[0]? = some x := ⟨_, List.getElem?_eq_getElem (by omega)⟩
    rw [if_pos h0, hx, Option.bind_some]
    by_cases h45 : (x.toNat : Int) = 45
    · have : x = 45 := (u8_is (n := 45) (by decide)).2 (by omega)
      subst this
      rw [if_pos h45, if_pos (by omega), if_pos rfl]
      have hlen : (List.drop 1 s).length ≤ 3000 := by rw [List.length_drop]; omega
      generalize List.drop 1 s = t at hlen
      by_cases h4 : t.length < 4
      · rw [if_pos (by omega), body_short true t h4]
      obtain ⟨a, p, d, e, rfl, ha⟩ := form_of t (by omega)
      obtain ⟨g0, g1, g2, gk, gl⟩ := get_form (a := a) (p := p) (d := d) (e := e)
      obtain ⟨c, hc⟩ : ∃ c, a[0]? = some c := ⟨_, List.getElem?_eq_getElem ha⟩
      rw [body_form true a p d e c ha hc, gl, if_neg (by omega), if_pos (inR_i64.2 (by omega)), if_pos (by omega), show Int.toNat (((a.length + 3 : Nat) : Int) - 3) = a.length by omega, g0, Option.bind_some]
      by_cases hp : (p.toNat : Int) = 46
      · rw [if_pos hp, gk 0 ha, hc, Option.bind_some]
        obtain ⟨r, hr, hq⟩ := parse_loop a p d e (by omega)
        have fin : (match r with
            | Sum.inl o16 => some ((0 : Int), (5 : Int))
            | Sum.inr (o16) => if o16 = (0 : Int) then some (0, 5) else if o16 > (1125899906842624 : Int) then some (0, 13) else if InR .i64 (0 - o16) then some ((0 - o16), 0) else none) =
            some (if (a ++ [d, e]).all dg = false ∨ (true = true ∧ pv (a ++ [d, e]) = 0) then (0, 5) else if pv (a ++ [d, e]) > 1125899906842624 then (0, 13) else (0 - (pv (a ++ [d, e]) : Int), 0)) := by
          rcases hq with ⟨rfl, hb⟩ | ⟨rfl, hg⟩
          · rw [if_pos (.inl hb)]
          · dsimp only
            by_cases hz : pv (a ++ [d, e]) = 0
            · rw [if_pos (by omega), if_pos (.inr ⟨rfl, hz⟩)]
            · have hk : ¬ ((a ++ [d, e]).all dg = false ∨ (true = true ∧ pv (a ++ [d, e]) = 0)) := by
                rintro (h | h)
                · rw [hg] at h; cases h
                · exact hz h.2
              rw [if_neg (show ¬ (pv (a ++ [d, e]) : Int) = 0 by omega), if_neg hk]
              by_cases hm : pv (a ++ [d, e]) > 1125899906842624
              · rw [if_pos (show (pv (a ++ [d, e]) : Int) > 1125899906842624 by omega), if_pos hm]
              · rw [if_neg (show ¬ (pv (a ++ [d, e]) : Int) > 1125899906842624 by omega), if_neg hm, if_pos (inR_i64.2 (by omega))]
        by_cases h48 : (c.toNat : Int) = 48
        · rw [if_pos h48]
          by_cases hl : a.length > 1
          · rw [if_pos (by omega), if_pos (.inr (.inl ⟨by omega, hl⟩))]
          · rw [if_neg (by omega), hr, Option.bind_some]
            refine Eq.trans fin ?_
            by_cases hk : (a ++ [d, e]).all dg = false ∨ (true = true ∧ pv (a ++ [d, e]) = 0)
            · rw [if_pos hk, if_pos (.inr (.inr hk))]
            · have hN : ¬ (p.toNat ≠ 46 ∨ (c.toNat = 48 ∧ a.length > 1) ∨ (a ++ [d, e]).all dg = false ∨ (true = true ∧ pv (a ++ [d, e]) = 0)) := by
                rintro (h | h | h)
                · exact h (by omega)
                · exact hl h.2
                · exact hk h
              rw [if_neg hk, if_neg hN, if_pos rfl]
        · rw [if_neg h48, hr, Option.bind_some]
          refine Eq.trans fin ?_
          by_cases hk : (a ++ [d, e]).all dg = false ∨ (true = true ∧ pv (a ++ [d, e]) = 0)
          · rw [if_pos hk, if_pos (.inr (.inr hk))]
          · have hN : ¬ (p.toNat ≠ 46 ∨ (c.toNat = 48 ∧ a.length > 1) ∨ (a ++ [d, e]).all dg = false ∨ (true = true ∧ pv (a ++ [d, e]) = 0)) := by
              rintro (h | h | h)
              · exact h (by omega)
              · exact h48 (by omega)
              · exact hk h
            rw [if_neg hk, if_neg hN, if_pos rfl]
      · rw [if_neg hp, if_pos (.inl (by omega))]
    · have hn45 : ¬ (some x = some (45 : UInt8)) := by
        rw [Option.some.injEq, show (45 : UInt8) = UInt8.ofNat 45 from rfl, u8_is (by decide)]; omega
      rw [if_neg h45, if_neg hn45]
      by_cases h4 : s.length < 4
      · rw [if_pos (by omega), body_short false s h4]
      obtain ⟨a, p, d, e, rfl, ha⟩ := form_of s (by omega)
      obtain ⟨g0, g1, g2, gk, gl⟩ := get_form (a := a) (p := p) (d := d) (e := e)
      have hc : a[0]? = some x := by rw [← gk 0 ha]; exact hx
      rw [body_form false a p d e x ha hc, gl, if_neg (by omega), if_pos (inR_i64.2 (by omega)), if_pos (by omega), show Int.toNat (((a.length + 3 : Nat) : Int) - 3) = a.length by omega, g0, Option.bind_some]
      by_cases hp : (p.toNat : Int) = 46
      · rw [if_pos hp]
        obtain ⟨r, hr, hq⟩ := parse_loop a p d e (by omega)
        have fin : (match r with
            | Sum.inl o16 => some ((0 : Int), (5 : Int))
            | Sum.inr (o16) => if o16 > (1125899906842624 : Int) then some (0, 13) else some (o16, 0)) =
            some (if (a ++ [d, e]).all dg = false then (0, 5) else if pv (a ++ [d, e]) > 1125899906842624 then (0, 13) else ((pv (a ++ [d, e]) : Int), 0)) := by
          rcases hq with ⟨rfl, hb⟩ | ⟨rfl, hg⟩
          · rw [if_pos hb]
          · dsimp only
            have hk : ¬ ((a ++ [d, e]).all dg = false) := by rw [hg]; decide
            rw [if_neg hk]
            by_cases hm : pv (a ++ [d, e]) > 1125899906842624
            · rw [if_pos (show (pv (a ++ [d, e]) : Int) > 1125899906842624 by omega), if_pos hm]
            · rw [if_neg (show ¬ (pv (a ++ [d, e]) : Int) > 1125899906842624 by omega), if_neg hm]
        by_cases h48 : (x.toNat : Int) = 48
        · rw [if_pos h48]
          by_cases hl : a.length > 1
          · rw [if_pos (by omega), if_pos (.inr (.inl ⟨by omega, hl⟩))]
          · rw [if_neg (by omega), hr, Option.bind_some]
            refine Eq.trans fin ?_
            by_cases hk : (a ++ [d, e]).all dg = false
            · rw [if_pos hk, if_pos (.inr (.inr (.inl hk)))]
            · have hN : ¬ (p.toNat ≠ 46 ∨ (x.toNat = 48 ∧ a.length > 1) ∨ (a ++ [d, e]).all dg = false ∨ (false = true ∧ pv (a ++ [d, e]) = 0)) := by
                rintro (h | h | h | h)
                · exact h (by omega)
                · exact hl h.2
                · exact hk h
                · exact absurd h.1 (by decide)
              rw [if_neg hk, if_neg hN, if_neg (show ¬ (false = true) by decide)]
        · rw [if_neg h48, hr, Option.bind_some]
          refine Eq.trans fin ?_
          by_cases hk : (a ++ [d, e]).all dg = false
          · rw [if_pos hk, if_pos (.inr (.inr (.inl hk)))]
          · have hN : ¬ (p.toNat ≠ 46 ∨ (x.toNat = 48 ∧ a.length > 1) ∨ (a ++ [d, e]).all dg = false ∨ (false = true ∧ pv (a ++ [d, e]) = 0)) := by
              rintro (h | h | h | h)
              · exact h (by omega)
              · exact h48 (by omega)
              · exact hk h
              · exact absurd h.1 (by decide)
            rw [if_neg hk, if_neg hN, if_neg (show ¬ (false = true) by decide)]
      · rw [if_neg hp, if_pos (.inl (by omega))]
  · have : s = [] := List.length_eq_zero_iff.1 (by omega)
    subst this
    rfl
def absN (n : Int) : Nat := n.natAbs
/-- what Show writes -/
def showF (n : Int) : List UInt8 :=
  (if n < 0 then [45] else []) ++ (Go.Lib.decDigits (n.natAbs / 100) ++ [46, UInt8.ofNat (48 + n.natAbs % 100 / 10), UInt8.ofNat (48 + n.natAbs % 10)])
theorem size_eq (n : Int) (h : -9223372036854775808 ≤ n ∧ n ≤ 9223372036854775807) : money_size n = some (n.natAbs : Int) := by
  unfold money_size
  by_cases h0 : n < 0
  · rw [if_pos h0, IntKind.wrap_u64, IntKind.wrap_u64]
    congr 1; omega
  · rw [if_neg h0, IntKind.wrap_u64]
    congr 1; omega
theorem fmt_eq (u : Nat) (h : u ≤ 18446744073709551615) : strconv_FormatUint u = some (Go.Lib.decDigits u) := by
  unfold strconv_FormatUint fmtF
  rw [if_pos (inR_u64.2 (by omega)), Option.bind_some, show Int.toNat (u : Int) = u by omega]
theorem dec_len (m : Nat) (h : m ≤ 9223372036854775808) : (Go.Lib.decDigits m).length ≤ 20 := by
  rw [Go.Lib.decDigits_length]
  rcases Nat.eq_zero_or_pos m with rfl | h0
  · rw [Go.Lib.nDigits_small (by decide)]; decide
  · have := Go.Lib.numDigits_eq m h0 (by omega)
    split at this <;> omega
theorem show_eq (n : Int) (h : -9223372036854775808 ≤ n ∧ n ≤ 9223372036854775807) : money_Show n = some (showF n) := by
  unfold money_Show showF
  rw [size_eq n h, Option.bind_some]
  have hu : n.natAbs ≤ 9223372036854775808 := by omega
  generalize n.natAbs = u at hu
  have q1 : Int.tdiv (u : Int) 100 = ((u / 100 : Nat) : Int) := by rw [Int.tdiv_eq_ediv_of_nonneg (by omega)]; omega
  have q2 : Int.tmod (u : Int) 100 = ((u % 100 : Nat) : Int) := by rw [Int.tmod_eq_emod_of_nonneg (by omega)]; omega
  have q3 : Int.tmod (u : Int) 10 = ((u % 10 : Nat) : Int) := by rw [Int.tmod_eq_emod_of_nonneg (by omega)]; omega
  have q4 : Int.tdiv ((u % 100 : Nat) : Int) 10 = ((u % 100 / 10 : Nat) : Int) := by rw [Int.tdiv_eq_ediv_of_nonneg (by omega)]; omega
  have hl := dec_len (u / 100) (by omega)
  rw [q1, q2, q3, q4, if_pos (inR_u64.2 (by omega)), fmt_eq _ (by omega), Option.bind_some, if_pos (by simp; omega), if_pos (inR_u64.2 (by omega)), if_pos (inR_u8.2 (by omega)), if_pos (inR_u8.2 (by omega)), if_pos (inR_u8.2 (by omega)), if_pos (inR_u8.2 (by omega)), Option.bind_some,
    if_pos (by simp; omega), show Int.toNat (48 + ((u % 100 / 10 : Nat) : Int)) = 48 + u % 100 / 10 by omega, show Int.toNat (48 + ((u % 10 : Nat) : Int)) = 48 + u % 10 by omega]
  by_cases h0 : n < 0
  · rw [if_pos h0, if_pos (by simp; omega), if_pos h0]; simp
  · rw [if_neg h0, if_neg h0]; simp
/-- what is parsed from a format -/
theorem parse_show (n : Int) (h : -9223372036854775808 ≤ n ∧ n ≤ 9223372036854775807) : parseF (showF n) = if -1125899906842624 ≤ n ∧ n ≤ 1125899906842624 then (n, 0) else (0, 13) := by
  unfold showF
  have hna : (n.natAbs : Int) = if n < 0 then 0 - n else n := by split <;> omega
  have hu : n.natAbs ≤ 9223372036854775808 := by omega
  generalize n.natAbs = u at hna hu
  have ha := dec_ne (u / 100)
  have hall : ∀ c ∈ Go.Lib.decDigits (u / 100) ++ [UInt8.ofNat (48 + u % 100 / 10), UInt8.ofNat (48 + u % 10)], dg c = true := by
    intro c hc
    simp only [List.mem_append, List.mem_cons, List.not_mem_nil, or_false] at hc
    rcases hc with hc | rfl | rfl
    · exact dec_dg _ c hc
    · exact ofNat_dg (by omega)
    · exact ofNat_dg (by omega)
  have hnm : nmN (Go.Lib.decDigits (u / 100) ++ [UInt8.ofNat (48 + u % 100 / 10), UInt8.ofNat (48 + u % 10)]) = u := by
    rw [show Go.Lib.decDigits (u / 100) ++ [UInt8.ofNat (48 + u % 100 / 10), UInt8.ofNat (48 + u % 10)] = (Go.Lib.decDigits (u / 100) ++ [UInt8.ofNat (48 + u % 100 / 10)]) ++ [UInt8.ofNat (48 + u % 10)] by simp,
      nmN_snoc, nmN_snoc, nm_dec, ofNat_toNat (by omega), ofNat_toNat (by omega)]
    omega
  have hpv := pv_spec (Go.Lib.decDigits (u / 100) ++ [UInt8.ofNat (48 + u % 100 / 10), UInt8.ofNat (48 + u % 10)])
  rw [hnm] at hpv
  obtain ⟨c, hc⟩ : ∃ c, (Go.Lib.decDigits (u / 100))[0]? = some c := ⟨_, List.getElem?_eq_getElem ha⟩
  have hcd := dg_iff.1 (dec_dg _ c (List.mem_of_getElem? hc))
  have hhead : ¬ (c.toNat = 48 ∧ (Go.Lib.decDigits (u / 100)).length > 1) := by
    rintro ⟨h1, h2⟩
    rcases dec_head (u / 100) with h | ⟨c', l, h, h3⟩
    · omega
    · rw [h] at hc
      obtain rfl := Option.some.inj hc
      exact h3 h1
  have hb : ∀ neg : Bool, (neg = true → 0 < u) → body neg (Go.Lib.decDigits (u / 100) ++ [46, UInt8.ofNat (48 + u % 100 / 10), UInt8.ofNat (48 + u % 10)]) = if u > 1125899906842624 then (0, 13) else (if neg = true then 0 - (u : Int) else u, 0) := by
    intro neg hneg
    rw [body_form neg _ _ _ _ c ha hc, if_neg]
    · by_cases hm : u > 1125899906842624
      · rw [if_pos (hpv.2 hm), if_pos hm]
      · rw [hpv.1 (by omega), if_neg hm]
    · rintro (h | h | h | ⟨h, h2⟩)
      · exact h rfl
      · exact hhead h
      · rw [List.all_eq_true.2 hall] at h; cases h
      · have := hneg h
        by_cases hm : u > 1125899906842624
        · have := hpv.2 hm; omega
        · have := hpv.1 (by omega); omega
  unfold parseF
  by_cases h0 : n < 0
  · rw [if_pos h0] at hna ⊢
    rw [if_pos (show ([45] ++ (Go.Lib.decDigits (u / 100) ++ [46, UInt8.ofNat (48 + u % 100 / 10), UInt8.ofNat (48 + u % 10)]) : List UInt8)[0]? = some 45 from rfl), show List.drop 1 ([45] ++ (Go.Lib.decDigits (u / 100) ++ [46, UInt8.ofNat (48 + u % 100 / 10), UInt8.ofNat (48 + u % 10)]) : List UInt8) = Go.Lib.decDigits (u / 100) ++ [46, UInt8.ofNat (48 + u % 100 / 10), UInt8.ofNat (48 + u % 10)] from rfl, hb true (fun _ => by omega)]
    by_cases hm : u > 1125899906842624
    · rw [if_pos hm, if_neg (by omega)]
    · rw [if_neg hm, if_pos rfl, if_pos (by omega), show 0 - (u : Int) = n by omega]
  · rw [if_neg h0] at hna ⊢
    rw [List.nil_append, List.getElem?_append_left ha, hc, if_neg (by rw [Option.some.injEq, show (45 : UInt8) = UInt8.ofNat 45 from rfl, u8_is (by decide)]; omega), hb false (fun h => by cases h)]
    by_cases hm : u > 1125899906842624
    · rw [if_pos hm, if_neg (by omega)]
    · rw [if_neg hm, if_neg (by decide), if_pos (by omega), show (u : Int) = n by omega]
/-- what is parsed has that format -/
theorem show_body (neg : Bool) (t : List UInt8) (h : (body neg t).2 = 0) : showF (body neg t).1 = (if neg = true then [45] else []) ++ t ∧ -1125899906842624 ≤ (body neg t).1 ∧ (body neg t).1 ≤ 1125899906842624 := by
  by_cases h4 : t.length < 4
  · rw [body_short neg t h4] at h; cases h
  obtain ⟨a, p, d, e, rfl, ha⟩ := form_of t (by omega)
  obtain ⟨c, hc⟩ : ∃ c, a[0]? = some c := ⟨_, List.getElem?_eq_getElem ha⟩
  rw [body_form neg a p d e c ha hc] at h ⊢
  by_cases h1 : p.toNat ≠ 46 ∨ (c.toNat = 48 ∧ a.length > 1) ∨ (a ++ [d, e]).all dg = false ∨ (neg = true ∧ pv (a ++ [d, e]) = 0)
  · rw [if_pos h1] at h; cases h
  rw [if_neg h1] at h ⊢
  by_cases h2 : pv (a ++ [d, e]) > 1125899906842624
  · rw [if_pos h2] at h; cases h
  rw [if_neg h2] at h ⊢
  dsimp only
  have hp : p = 46 := (u8_is (n := 46) (by decide)).2 (by
    apply Classical.byContradiction; intro g; exact h1 (.inl g))
  have hall : ∀ x ∈ a ++ [d, e], dg x = true := by
    apply List.all_eq_true.1
    cases g : (a ++ [d, e]).all dg with
    | true => rfl
    | false => exact absurd (.inr (.inr (.inl g))) h1
  have hnz : neg = true → pv (a ++ [d, e]) ≠ 0 := fun g1 g2 => h1 (.inr (.inr (.inr ⟨g1, g2⟩)))
  have hpv := pv_spec (a ++ [d, e])
  have hnm : pv (a ++ [d, e]) = nmN (a ++ [d, e]) := by
    rcases Nat.lt_or_ge 1125899906842624 (nmN (a ++ [d, e])) with g | g
    · have := hpv.2 g; omega
    · exact hpv.1 g
  have hd := dg_iff.1 (hall d (by simp))
  have he := dg_iff.1 (hall e (by simp))
  have hsum : nmN (a ++ [d, e]) = 100 * nmN a + 10 * (d.toNat - 48) + (e.toNat - 48) := by
    rw [show a ++ [d, e] = (a ++ [d]) ++ [e] by simp, nmN_snoc, nmN_snoc]; omega
  have hdec : Go.Lib.decDigits (nmN a) = a := dec_nm a (fun x hx => hall x (List.mem_append_left _ hx)) (by rintro rfl; simp at ha) (by
    by_cases g : a.length = 1
    · exact .inl g
    · refine .inr fun c' hc' g' => ?_
      rw [hc] at hc'; obtain rfl := Option.some.inj hc'
      exact h1 (.inr (.inl ⟨g', by omega⟩)))
  generalize pv (a ++ [d, e]) = v at *
  have e1 : v / 100 = nmN a := by omega
  have e2 : UInt8.ofNat (48 + v % 100 / 10) = d := ((u8_is (n := 48 + v % 100 / 10) (by omega)).2 (by omega)).symm
  have e3 : UInt8.ofNat (48 + v % 10) = e := ((u8_is (n := 48 + v % 10) (by omega)).2 (by omega)).symm
  subst hp
  unfold showF
  cases neg with
  | true =>
    have := hnz rfl
    rw [if_pos rfl, if_pos rfl, show Int.natAbs (0 - (v : Int)) = v by omega, if_pos (by omega), e1, e2, e3, hdec]
    exact ⟨rfl, by omega, by omega⟩
  | false =>
    have ef : ∀ {α : Type} (x y : α), (if false = true then x else y) = y := fun _ _ => if_neg (by decide)
    rw [ef, ef, show Int.natAbs (v : Int) = v by omega, if_neg (by omega), e1, e2, e3, hdec]
    exact ⟨rfl, by omega, by omega⟩
theorem show_parse (s : List UInt8) (h : (parseF s).2 = 0) : showF (parseF s).1 = s ∧ -1125899906842624 ≤ (parseF s).1 ∧ (parseF s).1 ≤ 1125899906842624 := by
  unfold parseF at h ⊢
  by_cases h0 : s[0]? = some 45
  · rw [if_pos h0] at h ⊢
    obtain ⟨h1, h2⟩ := show_body true _ h
    refine ⟨?_, h2⟩
    rw [h1, if_pos rfl]
    cases s with
    | nil => simp at h0
    | cons c s => simp at h0; subst h0; rfl
  · rw [if_neg h0] at h ⊢
    obtain ⟨h1, h2⟩ := show_body false _ h
    exact ⟨by rw [h1, if_neg (by decide)]; rfl, h2⟩
theorem parse_err (s : List UInt8) : (parseF s).2 = 0 ∨ parseF s = (0, 5) ∨ parseF s = (0, 13) := by
  unfold parseF body
  split <;> split <;> (try split) <;> simp
theorem show_len (n : Int) (h : -9223372036854775808 ≤ n ∧ n ≤ 9223372036854775807) : (showF n).length ≤ 3000 := by
  unfold showF
  have := dec_len (n.natAbs / 100) (by omega)
  rw [List.length_append, List.length_append]
  split <;> simp <;> omega
end Go.Proofs.YteljonodbkkckaaDoor.Av
