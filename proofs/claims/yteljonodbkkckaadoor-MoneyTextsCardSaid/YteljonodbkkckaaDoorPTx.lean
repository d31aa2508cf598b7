/- The reference formats and parses alike; the law MoneyTexts holds. -/
import Derived.Test.YteljonodbkkckaaDoorPSh2
import Derived.Test.YteljonodbkkckaaDoorM3
import Derived.Test.YteljonodbkkckaaDoorM2
set_option linter.unusedVariables false
set_option linter.unusedSimpArgs false
set_option maxHeartbeats 1000000
namespace Go.Proofs.YteljonodbkkckaaDoor.Av
open Go Go.Proofs
theorem rparse_loop (a : List UInt8) (p d e : UInt8) (hl : a.length ≤ 3000) :
    ∃ r, lp (tollwayref03_Parse_L174_step (a ++ [p, d, e])) (0, 0) = some r ∧ ((r = .inl () ∧ (a ++ [d, e]).all dg = false) ∨ (r = .inr (pv (a ++ [d, e]) : Int) ∧ (a ++ [d, e]).all dg = true)) := by
  obtain ⟨g0, g1, g2, gk, gl⟩ := get_form (a := a) (p := p) (d := d) (e := e)
  have bad : ∀ (l : List UInt8) (c : UInt8), c ∈ l → dg c = false → l.all dg = false := fun l c hc h => by
    rw [List.all_eq_false]; exact ⟨c, hc, by rw [h]; decide⟩
  -- one byte that is looked at
  have one : ∀ (k : Nat) (c : UInt8) (l : List UInt8), k < a.length + 3 → k ≠ a.length → (a ++ [p, d, e])[k]? = some c → (∀ x ∈ l, dg x = true) → c ∈ a ++ [d, e] →
      (tollwayref03_Parse_L174_step (a ++ [p, d, e]) ((pv l : Int), k) = some (.inl ((pv (l ++ [c]) : Int), k + 1)) ∧ dg c = true) ∨ (tollwayref03_Parse_L174_step (a ++ [p, d, e]) ((pv l : Int), k) = some (.inr (.inl ())) ∧ (a ++ [d, e]).all dg = false) := by
    intro k c l hk hne hc hall hmem
    unfold tollwayref03_Parse_L174_step
    dsimp only
    have hb := pv_bound l hall
    rw [gl, if_pos (by omega), if_neg (by omega), hc, Option.bind_some]
    by_cases h48 : (c.toNat : Int) < 48
    · rw [if_pos h48]; exact .inr ⟨rfl, bad _ c hmem (by
        cases h : dg c with
        | false => rfl
        | true => have := dg_iff.1 h; omega)⟩
    rw [if_neg h48]
    by_cases h57 : (c.toNat : Int) > 57
    · rw [if_pos h57]; exact .inr ⟨rfl, bad _ c hmem (by
        cases h : dg c with
        | false => rfl
        | true => have := dg_iff.1 h; omega)⟩
    rw [if_neg h57]
    refine .inl ⟨?_, dg_iff.2 (by omega)⟩
    rw [pv_snoc]
    by_cases hm : pv l ≤ 1125899906842624
    · rw [if_pos (by omega), if_pos hm, if_pos (inR_i64.2 (by omega)), if_pos (inR_i64.2 (by omega)), if_pos (inR_i64.2 (by omega)), if_pos (inR_i64.2 (by omega)), if_pos (inR_i64.2 (by omega))]
      congr 3
      omega
    · rw [if_neg (by omega), if_neg hm, if_pos (inR_i64.2 (by omega))]
  refine lp_inv (fun s : Int × Nat => (s.2 ≤ a.length ∧ s.1 = pv (a.take s.2) ∧ ∀ c ∈ a.take s.2, dg c = true) ∨ (s.2 = a.length + 1 ∧ s.1 = pv a ∧ ∀ c ∈ a, dg c = true) ∨ (s.2 = a.length + 2 ∧ s.1 = pv (a ++ [d]) ∧ ∀ c ∈ a ++ [d], dg c = true) ∨ (s.2 = a.length + 3 ∧ s.1 = pv (a ++ [d, e]) ∧ ∀ c ∈ a ++ [d, e], dg c = true))
    (fun s => a.length + 3 - s.2) _ ?_ (0, 0) (.inl ⟨Nat.zero_le _, rfl, by simp⟩)
  rintro ⟨v, k⟩ h
  dsimp only at h
  rcases h with ⟨h1, rfl, h3⟩ | ⟨rfl, rfl, h3⟩ | ⟨rfl, rfl, h3⟩ | ⟨rfl, rfl, h3⟩
  · by_cases hk : k < a.length
    · have hx : a[k]? = some a[k] := List.getElem?_eq_getElem hk
      have ht : a.take (k + 1) = a.take k ++ [a[k]] := by rw [List.take_add_one, hx]; rfl
      rcases one k a[k] (a.take k) (by omega) (by omega) (by rw [gk k hk]; exact hx) h3 (List.mem_append_left _ (List.getElem_mem hk)) with ⟨h, hd⟩ | ⟨h, hb⟩
      · refine .inl ⟨_, h, .inl ⟨hk, by dsimp only; rw [ht], ?_⟩, by dsimp only; omega⟩
        dsimp only
        rw [ht]
        intro c hc
        rw [List.mem_append, List.mem_singleton] at hc
        rcases hc with hc | rfl
        · exact h3 c hc
        · exact hd
      · exact .inr ⟨_, h, .inl ⟨rfl, hb⟩⟩
    · have : k = a.length := by omega
      subst this
      rw [List.take_length] at h3 ⊢
      refine .inl ⟨((pv a : Int), a.length + 1), ?_, .inr (.inl ⟨rfl, rfl, h3⟩), by dsimp only; omega⟩
      unfold tollwayref03_Parse_L174_step
      dsimp only
      rw [gl, if_pos (by omega), if_pos (by omega), if_pos (inR_i64.2 (by omega))]
  · rcases one (a.length + 1) d a (by omega) (by omega) g1 h3 (by simp) with ⟨h, hd⟩ | ⟨h, hb⟩
    · refine .inl ⟨_, h, .inr (.inr (.inl ⟨rfl, rfl, fun c hc => ?_⟩)), by dsimp only; omega⟩
      rw [List.mem_append, List.mem_singleton] at hc
      rcases hc with hc | rfl
      · exact h3 c hc
      · exact hd
    · exact .inr ⟨_, h, .inl ⟨rfl, hb⟩⟩
  · rcases one (a.length + 2) e (a ++ [d]) (by omega) (by omega) g2 h3 (by simp) with ⟨h, hd⟩ | ⟨h, hb⟩
    · have ee : a ++ [d] ++ [e] = a ++ [d, e] := by simp
      rw [ee] at h
      refine .inl ⟨_, h, .inr (.inr (.inr ⟨rfl, rfl, fun c hc => ?_⟩)), by dsimp only; omega⟩
      rw [← ee, List.mem_append, List.mem_singleton] at hc
      rcases hc with hc | rfl
      · exact h3 c hc
      · exact hd
    · exact .inr ⟨_, h, .inl ⟨rfl, hb⟩⟩
  · refine .inr ⟨.inr (pv (a ++ [d, e]) : Int), ?_, .inr ⟨rfl, List.all_eq_true.2 h3⟩⟩
    unfold tollwayref03_Parse_L174_step
    dsimp only
    rw [gl, if_neg (by omega)]
theorem rfits_eq (n : Int) (h : 0 ≤ n) : tollwayref03_Fits n = some (decide (n ≤ 1125899906842624)) := by
  unfold tollwayref03_Fits
  rw [if_pos (by omega)]
theorem rL16_eq (s : List UInt8) (x : UInt8) : tollwayref03_Parse_L16_step s x = tollwayref03_Parse_L174_step (List.drop 1 s) := rfl
theorem rL92_eq (s : List UInt8) (x : UInt8) : tollwayref03_Parse_L92_step s x = tollwayref03_Parse_L174_step s := rfl
theorem rparse_eq (s : List UInt8) (hs : s.length ≤ 3000) : tollwayref03_Parse s = some (parseF s) := by
  unfold tollwayref03_Parse parseF
  by_cases h0 : (s.length : Int) > 0
  · obtain ⟨x, hx⟩ : ∃ x, s[0]? = some x := ⟨_, List.getElem?_eq_getElem (by omega)⟩
    rw [if_pos h0, hx, Option.bind_some, rL16_eq, rL92_eq]
    by_cases h45 : (x.toNat : Int) = 45
    · have : x = 45 := (u8_is (n := 45) (by decide)).2 (by omega)
      subst this
      rw [if_pos h45, if_pos (by omega), if_pos rfl]
      have hlen : (List.drop 1 s).length ≤ 3000 := by rw [List.length_drop]; omega
      generalize List.drop 1 s = t at hlen
      rw [if_pos (inR_i64.2 (by omega))]
      by_cases h4 : t.length < 4
      · rw [if_pos (by omega), body_short true t h4]
      obtain ⟨a, p, d, e, rfl, ha⟩ := form_of t (by omega)
      obtain ⟨g0, g1, g2, gk, gl⟩ := get_form (a := a) (p := p) (d := d) (e := e)
      obtain ⟨c, hc⟩ : ∃ c, a[0]? = some c := ⟨_, List.getElem?_eq_getElem ha⟩
      rw [body_form true a p d e c ha hc, gl, if_neg (by omega), if_pos (by omega), show Int.toNat (((a.length + 3 : Nat) : Int) - 3) = a.length by omega, g0, Option.bind_some]
      by_cases hp : (p.toNat : Int) = 46
      · rw [if_pos hp, gk 0 ha, hc]
        obtain ⟨r, hr, hq⟩ := rparse_loop a p d e (by omega)
        have fin : (match r with
            | Sum.inl o16 => some ((0 : Int), (5 : Int))
            | Sum.inr (o16) => if o16 = (0 : Int) then some (0, 5) else (tollwayref03_Fits o16).bind fun r46 => if r46 = true then (if InR .i64 (0 - o16) then some ((0 - o16), 0) else none) else some (0, 13)) =
            some (if (a ++ [d, e]).all dg = false ∨ (true = true ∧ pv (a ++ [d, e]) = 0) then (0, 5) else if pv (a ++ [d, e]) > 1125899906842624 then (0, 13) else (0 - (pv (a ++ [d, e]) : Int), 0)) := by
          rcases hq with ⟨rfl, hb⟩ | ⟨rfl, hg⟩
          · rw [if_pos (.inl hb)]
          · dsimp only
            by_cases hz : pv (a ++ [d, e]) = 0
            · rw [if_pos (by omega), if_pos (.inr ⟨rfl, hz⟩)]
            · have hk : ¬ ((a ++ [d, e]).all dg = false ∨ (true = true ∧ pv (a ++ [d, e]) = 0)) := by
                rintro (h | h)
                · rw [hg] at h; cases h
                · exact hz h.2
              rw [if_neg (show ¬ (pv (a ++ [d, e]) : Int) = 0 by omega), if_neg hk, rfits_eq _ (by omega), Option.bind_some]
              by_cases hm : pv (a ++ [d, e]) > 1125899906842624
              · rw [decide_eq_false (show ¬ (pv (a ++ [d, e]) : Int) ≤ 1125899906842624 by omega), if_neg (by decide), if_pos hm]
              · rw [decide_eq_true (show (pv (a ++ [d, e]) : Int) ≤ 1125899906842624 by omega), if_pos rfl, if_neg hm, if_pos (inR_i64.2 (by omega))]
        by_cases hl : a.length > 1
        · rw [if_pos (by omega), Option.bind_some]
          by_cases h48 : (c.toNat : Int) = 48
          · rw [if_pos h48, if_pos (.inr (.inl ⟨by omega, hl⟩))]
          · rw [if_neg h48, hr, Option.bind_some]
            refine Eq.trans fin ?_
            by_cases hk : (a ++ [d, e]).all dg = false ∨ (true = true ∧ pv (a ++ [d, e]) = 0)
            · rw [if_pos hk, if_pos (.inr (.inr hk))]
            · have hN : ¬ (p.toNat ≠ 46 ∨ (c.toNat = 48 ∧ a.length > 1) ∨ (a ++ [d, e]).all dg = false ∨ (true = true ∧ pv (a ++ [d, e]) = 0)) := by
                rintro (h | h | h)
                · exact h (by omega)
                · exact h48 (by omega)
                · exact hk h
              rw [if_neg hk, if_neg hN, if_pos rfl]
        · rw [if_neg (by omega), hr, Option.bind_some]
          refine Eq.trans fin ?_
          by_cases hk : (a ++ [d, e]).all dg = false ∨ (true = true ∧ pv (a ++ [d, e]) = 0)
          · rw [if_pos hk, if_pos (.inr (.inr hk))]
          · have hN : ¬ (p.toNat ≠ 46 ∨ (c.toNat = 48 ∧ a.length > 1) ∨ (a ++ [d, e]).all dg = false ∨ (true = true ∧ pv (a ++ [d, e]) = 0)) := by
              rintro (h | h | h)
              · exact h (by omega)
              · exact hl h.2
              · exact hk h
            rw [if_neg hk, if_neg hN, if_pos rfl]
      · rw [if_neg hp, if_pos (.inl (by omega))]
    · have hn45 : ¬ (some x = some (45 : UInt8)) := by
        rw [Option.some.injEq, show (45 : UInt8) = UInt8.ofNat 45 from rfl, u8_is (by decide)]; omega
      rw [if_neg h45, if_neg hn45, if_pos (inR_i64.2 (by omega))]
      by_cases h4 : s.length < 4
      · rw [if_pos (by omega), body_short false s h4]
      obtain ⟨a, p, d, e, rfl, ha⟩ := form_of s (by omega)
      obtain ⟨g0, g1, g2, gk, gl⟩ := get_form (a := a) (p := p) (d := d) (e := e)
      have hc : a[0]? = some x := by rw [← gk 0 ha]; exact hx
      rw [body_form false a p d e x ha hc, gl, if_neg (by omega), if_pos (by omega), show Int.toNat (((a.length + 3 : Nat) : Int) - 3) = a.length by omega, g0, Option.bind_some]
      by_cases hp : (p.toNat : Int) = 46
      · rw [if_pos hp]
        obtain ⟨r, hr, hq⟩ := rparse_loop a p d e (by omega)
        have fin : (match r with
            | Sum.inl o16 => some ((0 : Int), (5 : Int))
            | Sum.inr (o16) => if o16 = (0 : Int) then ((tollwayref03_Fits o16).bind fun r122 => if r122 = true then some (o16, 0) else some (0, 13)) else ((tollwayref03_Fits o16).bind fun r122 => if r122 = true then some (o16, 0) else some (0, 13))) =
            some (if (a ++ [d, e]).all dg = false then (0, 5) else if pv (a ++ [d, e]) > 1125899906842624 then (0, 13) else ((pv (a ++ [d, e]) : Int), 0)) := by
          rcases hq with ⟨rfl, hb⟩ | ⟨rfl, hg⟩
          · rw [if_pos hb]
          · dsimp only
            have hk : ¬ ((a ++ [d, e]).all dg = false) := by rw [hg]; decide
            rw [if_neg hk, rfits_eq _ (by omega), Option.bind_some, ite_self]
            by_cases hm : pv (a ++ [d, e]) > 1125899906842624
            · rw [decide_eq_false (show ¬ (pv (a ++ [d, e]) : Int) ≤ 1125899906842624 by omega), if_neg (by decide), if_pos hm]
            · rw [decide_eq_true (show (pv (a ++ [d, e]) : Int) ≤ 1125899906842624 by omega), if_pos rfl, if_neg hm]
        by_cases hl : a.length > 1
        · rw [if_pos (by omega)]
          by_cases h48 : (x.toNat : Int) = 48
          · rw [if_pos h48, if_pos (.inr (.inl ⟨by omega, hl⟩))]
          · rw [if_neg h48, hr, Option.bind_some]
            refine Eq.trans fin ?_
            by_cases hk : (a ++ [d, e]).all dg = false
            · rw [if_pos hk, if_pos (.inr (.inr (.inl hk)))]
            · have hN : ¬ (p.toNat ≠ 46 ∨ (x.toNat = 48 ∧ a.length > 1) ∨ (a ++ [d, e]).all dg = false ∨ (false = true ∧ pv (a ++ [d, e]) = 0)) := by
                rintro (h | h | h | h)
                · exact h (by omega)
                · exact h48 (by omega)
                · exact hk h
                · exact absurd h.1 (by decide)
              rw [if_neg hk, if_neg hN, if_neg (show ¬ (false = true) by decide)]
        · rw [if_neg (by omega), hr, Option.bind_some]
          refine Eq.trans fin ?_
          by_cases hk : (a ++ [d, e]).all dg = false
          · rw [if_pos hk, if_pos (.inr (.inr (.inl hk)))]
          · have hN : ¬ (p.toNat ≠ 46 ∨ (x.toNat = 48 ∧ a.length > 1) ∨ (a ++ [d, e]).all dg = false ∨ (false = true ∧ pv (a ++ [d, e]) = 0)) := by
              rintro (h | h | h | h)
              · exact h (by omega)
              · exact hl h.2
              · exact hk h
              · exact absurd h.1 (by decide)
            rw [if_neg hk, if_neg hN, if_neg (show ¬ (false = true) by decide)]
      · rw [if_neg hp, if_pos (.inl (by omega))]
  · have : s = [] := List.length_eq_zero_iff.1 (by omega)
    subst this
    rfl
theorem rsize_eq (n : Int) (h : -9223372036854775808 ≤ n ∧ n ≤ 9223372036854775807) : tollwayref03_size n = some (n.natAbs : Int) := by
  unfold tollwayref03_size
  by_cases h0 : n < 0
  · rw [if_pos h0, Option.bind_some, IntKind.wrap_u64, IntKind.wrap_u64, IntKind.wrap_i64, IntKind.wrap_i64]
    congr 1; omega
  · rw [if_neg h0, IntKind.wrap_u64]
    congr 1; omega
theorem rdigits_eq : ∀ (k u : Nat), 1 ≤ k → u < 10 ^ k → u ≤ 9223372036854775808 → tollwayref03_digits_fuel k u = some (Go.Lib.decDigits u)
  | 0, u, h, _, _ => by omega
  | k + 1, u, _, h, hu => by
    show tollwayref03_digits (tollwayref03_digits_fuel k) u = _
    unfold tollwayref03_digits
    by_cases h1 : u < 10
    · rw [if_pos (by omega), if_pos (inR_u64.2 (by omega)), if_pos (inR_u8.2 (by omega)), Go.Lib.decDigits_one h1, show Int.toNat (48 + (u : Int)) = 48 + u by omega]
    · have hk : 1 ≤ k := by
        rcases Nat.eq_zero_or_pos k with rfl | h'
        · simp at h; omega
        · exact h'
      have q1 : Int.tdiv (u : Int) 10 = ((u / 10 : Nat) : Int) := by rw [Int.tdiv_eq_ediv_of_nonneg (by omega)]; omega
      have q2 : Int.tmod (u : Int) 10 = ((u % 10 : Nat) : Int) := by rw [Int.tmod_eq_emod_of_nonneg (by omega)]; omega
      have hl := dec_len (u / 10) (by omega)
      rw [if_neg (by omega), q1, q2, if_pos (inR_u64.2 (by omega)), rdigits_eq k (u / 10) hk (by rw [Nat.pow_succ] at h; omega) (by omega), Option.bind_some, if_pos (inR_u64.2 (by omega)), if_pos (inR_u8.2 (by omega)), if_pos (by simp; omega), Option.bind_some,
        show Int.toNat (48 + ((u % 10 : Nat) : Int)) = 48 + u % 10 by omega, Go.Lib.decDigits.eq_def u, dif_neg h1]
theorem rdigits64 (u : Nat) (hu : u ≤ 9223372036854775808) : tollwayref03_digits_fuel 64 u = some (Go.Lib.decDigits u) := by
  refine rdigits_eq 64 u (by decide) ?_ hu
  have : (9223372036854775808 : Nat) < 10 ^ 64 := by decide
  omega
theorem rshow_eq (n : Int) (h : -9223372036854775808 ≤ n ∧ n ≤ 9223372036854775807) : tollwayref03_Show n = some (showF n) := by
  unfold tollwayref03_Show showF
  rw [rsize_eq n h, Option.bind_some]
  have hu : n.natAbs ≤ 9223372036854775808 := by omega
  generalize n.natAbs = u at hu
  have q1 : Int.tdiv (u : Int) 100 = ((u / 100 : Nat) : Int) := by rw [Int.tdiv_eq_ediv_of_nonneg (by omega)]; omega
  have q2 : Int.tdiv (u : Int) 10 = ((u / 10 : Nat) : Int) := by rw [Int.tdiv_eq_ediv_of_nonneg (by omega)]; omega
  have q3 : Int.tmod (u : Int) 10 = ((u % 10 : Nat) : Int) := by rw [Int.tmod_eq_emod_of_nonneg (by omega)]; omega
  have q4 : Int.tmod ((u / 10 : Nat) : Int) 10 = ((u / 10 % 10 : Nat) : Int) := by rw [Int.tmod_eq_emod_of_nonneg (by omega)]; omega
  have hl := dec_len (u / 100) (by omega)
  rw [q1, q2, q3, q4, if_pos (inR_u64.2 (by omega)), rdigits64 _ (by omega), Option.bind_some, if_pos (by simp; omega), if_pos (inR_u64.2 (by omega)), rdigits64 _ (by omega), Option.bind_some, Go.Lib.decDigits_one (show u / 10 % 10 < 10 by omega), if_pos (by simp; omega), rdigits64 _ (by omega), Option.bind_some, Go.Lib.decDigits_one (show u % 10 < 10 by omega), if_pos (by simp; omega),
    show u / 10 % 10 = u % 100 / 10 by omega]
  by_cases h0 : n < 0
  · rw [if_pos h0, if_pos (by simp; omega), if_pos h0]; simp
  · rw [if_neg h0, if_neg h0]; simp
theorem tollwaylaw03_MoneyTexts_true (n : Int) (s : List UInt8) (hn : InR .i64 n) {p : Prop} (_ : p) : tollwaylaw03_MoneyTexts n s = some true := by
  have hn : -9223372036854775808 ≤ n ∧ n ≤ 9223372036854775807 := hn
  unfold tollwaylaw03_MoneyTexts
  by_cases hl : (s.length : Int) > 2000
  · rw [if_pos hl]; rfl
  rw [if_neg hl, parse_eq s (by omega), rparse_eq s (by omega), show_eq n hn, rshow_eq n hn, Option.bind_some, Option.bind_some, Option.bind_some, Option.bind_some, if_pos rfl, if_pos rfl, if_pos rfl]
  rfl
end Go.Proofs.YteljonodbkkckaaDoor.Av
