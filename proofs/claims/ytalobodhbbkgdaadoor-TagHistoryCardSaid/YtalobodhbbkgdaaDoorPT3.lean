/- Transponder numbers: how they are made; which lists are valid; the examples of the chapter. -/
import Derived.Test.YtalobodhbbkgdaaDoorPT2
import Derived.Test.YtalobodhbbkgdaaDoorTA
set_option linter.unusedVariables false
set_option linter.unusedSimpArgs false
set_option maxHeartbeats 1000000
namespace Go.Proofs.YtalobodhbbkgdaaDoor.Av
open Go Go.Proofs
/-- a number in so many digits -/
def pad (n : Nat) : Nat → List UInt8
  | 0 => []
  | m + 1 => pad (n / 10) m ++ [UInt8.ofNat (48 + n % 10)]
theorem pad_len (m : Nat) : ∀ n, (pad n m).length = m := by
  induction m with
  | zero => intro n; rfl
  | succ m ih => intro n; simp [pad, ih]
theorem ofNat_dg {d : Nat} (h : d < 10) : dg (UInt8.ofNat (48 + d)) = true := by
  rw [dg_iff, UInt8.toNat_ofNat']; omega
theorem pad_dg (m : Nat) : ∀ n, ∀ c ∈ pad n m, dg c = true := by
  induction m with
  | zero => intro n c hc; simp [pad] at hc
  | succ m ih =>
    intro n c hc
    simp only [pad, List.mem_append, List.mem_singleton] at hc
    rcases hc with hc | rfl
    · exact ih _ c hc
    · exact ofNat_dg (by omega)
theorem pad_front (k : Nat) : ∀ n, pad n (k + 1) = UInt8.ofNat (48 + n / 10 ^ k % 10) :: pad n k := by
  induction k with
  | zero => intro n; simp [pad]
  | succ k ih =>
    intro n
    rw [show pad n (k + 1 + 1) = pad (n / 10) (k + 1) ++ [UInt8.ofNat (48 + n % 10)] from rfl, ih, Nat.div_div_eq_div_mul, Nat.pow_succ, Nat.mul_comm (10 ^ k) 10]
    rfl
theorem dig10 : ∀ d : Nat, d < 10 → List.drop d (List.take (d + 1) ([48, 49, 50, 51, 52, 53, 54, 55, 56, 57] : List UInt8)) = [UInt8.ofNat (48 + d)] := by decide
theorem rdigits_eq (n m : Nat) (hm : m ≤ 100) (hn : n ≤ 9223372036854775807) : tollwayref11_digits n m = some (pad n m) := by
  unfold tollwayref11_digits
  rw [lp_invE (step := tollwayref11_digits_L1_step m) (fun p : Int × List UInt8 × Nat => p.2.2 ≤ m ∧ p.1 = ((n / 10 ^ p.2.2 : Nat) : Int) ∧ p.2.1 = pad n p.2.2) (fun p => m - p.2.2) (pad n m) ?_ (n, [], 0) ⟨Nat.zero_le _, by simp, rfl⟩]; rfl
  rintro ⟨v, a, k⟩ ⟨h1, h2, h3⟩
  dsimp only at h1 h2 h3
  unfold tollwayref11_digits_L1_step
  dsimp only
  by_cases hk : k < m
  · have hq : n / 10 ^ k ≤ n := Nat.div_le_self _ _
    have hd : n / 10 ^ (k + 1) = n / 10 ^ k / 10 := by rw [Nat.div_div_eq_div_mul, Nat.pow_succ]
    have hpf := pad_front k n
    generalize n / 10 ^ k = q at h2 hq hd hpf
    subst h2
    have hm : Int.tmod (q : Int) 10 = ((q % 10 : Nat) : Int) := by rw [Int.tmod_eq_emod_of_nonneg (by omega)]; omega
    have hq10 : Int.tdiv (q : Int) 10 = ((q / 10 : Nat) : Int) := by rw [Int.tdiv_eq_ediv_of_nonneg (by omega)]; omega
    rw [hm, hq10, if_pos (by omega), if_pos (inR_i64.2 (by omega)), if_pos (by omega), if_pos (by omega), show Int.toNat ((q % 10 : Nat) : Int) = q % 10 by omega, show Int.toNat (((q % 10 : Nat) : Int) + 1) = q % 10 + 1 by omega,
      if_pos (by omega), if_pos (by omega), dig10 _ (by omega), Option.bind_some, if_pos (by rw [h3, pad_len]; simp; omega), if_pos (inR_i64.2 (by omega)), if_pos (inR_i64.2 (by omega))]
    refine .inl ⟨_, rfl, ⟨hk, ?_, ?_⟩, by dsimp only; omega⟩
    · dsimp only; rw [hd]
    · dsimp only; rw [hpf, h3]; rfl
  · rw [if_neg (by omega)]
    have : k = m := by omega
    subst this
    exact .inr (by rw [h3])
theorem pad_dec (m : Nat) : ∀ n, 1 ≤ m → n < 10 ^ m → (Go.Lib.decDigits n).length ≤ m ∧ List.replicate (m - (Go.Lib.decDigits n).length) 48 ++ Go.Lib.decDigits n = pad n m := by
  induction m with
  | zero => intro n h; omega
  | succ m ih =>
    intro n _ hn
    by_cases h : n < 10
    · rw [Go.Lib.decDigits_one h]
      refine ⟨by simp, ?_⟩
      have hz : ∀ m, pad 0 m = List.replicate m 48 := fun m => by
        induction m with
        | zero => rfl
        | succ m ih => rw [pad, Nat.zero_div, ih, List.replicate_succ']; rfl
      rw [pad, show n / 10 = 0 by omega, hz, show n % 10 = n by omega]
      simp
    · have hm : 1 ≤ m := by
        rcases Nat.eq_zero_or_pos m with rfl | h'
        · simp at hn; omega
        · exact h'
      obtain ⟨h1, h2⟩ := ih (n / 10) hm (by rw [Nat.pow_succ] at hn; omega)
      rw [Go.Lib.decDigits, dif_neg h]
      refine ⟨by simp; exact h1, ?_⟩
      rw [pad, ← h2, List.append_assoc]
      simp
theorem rep_eq : ∀ k : Nat, k ≤ 7 → strings_Repeat (k : Int) = some (List.replicate k 48)
  | 0, _ => by kernel_rfl
  | 1, _ => by kernel_rfl
  | 2, _ => by kernel_rfl
  | 3, _ => by kernel_rfl
  | 4, _ => by kernel_rfl
  | 5, _ => by kernel_rfl
  | 6, _ => by kernel_rfl
  | 7, _ => by kernel_rfl
  | k + 8, h => by omega
theorem itoaF_nat (n : Int) (h : 0 ≤ n ∧ n ≤ 9223372036854775807) : itoaF n = some (Go.Lib.decDigits n.toNat) := by
  unfold itoaF Go.Lib.itoa
  rw [if_pos (inR_i64.2 (by omega)), if_neg (by omega)]
/-- what Make gives -/
def mkS (ag : List UInt8) (n : Nat) : List UInt8 := (ag ++ pad n 8) ++ [UInt8.ofNat (48 + ((10 - ls 0 (ag ++ pad n 8) % 10) % 10).toNat)]
def mkR (ag : List UInt8) (n : Int) : List UInt8 × Int :=
  if (ag.all dg && decide (ag.length = 3)) = true then (if n < 0 ∨ n > 99999999 then ([], 2) else (mkS ag n.toNat, 0)) else ([], 30)
theorem make_eq (ag : List UInt8) (n : Int) : tag_Make ag n = some (mkR ag n) := by
  unfold tag_Make mkR
  rw [digits_eq, Option.bind_some]
  have hc : (ag.all dg && ((ag.length : Int) == 3)) = (ag.all dg && decide (ag.length = 3)) := by
    congr 1
    by_cases h : ag.length = 3
    · rw [h]; rfl
    · rw [decide_eq_false h]; simp; omega
  rw [hc]
  cases hd : (ag.all dg && decide (ag.length = 3)) with
  | false => rfl
  | true =>
  rw [if_pos rfl, if_pos rfl]
  simp only [Bool.and_eq_true, decide_eq_true_eq, List.all_eq_true] at hd
  obtain ⟨hd1, hd2⟩ := hd
  by_cases h0 : n < 0
  · rw [if_pos h0, if_pos (.inl h0)]
  rw [if_neg h0]
  by_cases h9 : n > 99999999
  · rw [if_pos h9, if_pos (.inr h9)]
  rw [if_neg h9, if_neg (by omega), itoaF_nat n (by omega), Option.bind_some]
  obtain ⟨p1, p2⟩ := pad_dec 8 n.toNat (by decide) (by omega)
  have p3 : 1 ≤ (Go.Lib.decDigits n.toNat).length := by
    unfold Go.Lib.decDigits
    split <;> simp
  have hl : ((Go.Lib.decDigits n.toNat).length : Int) ≤ 8 := by omega
  rw [if_pos (inR_i64.2 (by omega)), show (8 - ((Go.Lib.decDigits n.toNat).length : Int)) = ((8 - (Go.Lib.decDigits n.toNat).length : Nat) : Int) by omega, rep_eq _ (by omega), Option.bind_some]
  rw [if_pos (by simp; omega), if_pos (by simp; omega), List.append_assoc, p2]
  have hall : ∀ c ∈ ag ++ pad n.toNat 8, dg c = true := fun c hc => by
    rw [List.mem_append] at hc
    rcases hc with hc | hc
    · exact hd1 c hc
    · exact pad_dg 8 _ c hc
  have hlen : (ag ++ pad n.toNat 8).length = 11 := by rw [List.length_append, pad_len]; omega
  have hb := ls_bound _ 0 hall
  rw [luhn_eq _ (by omega) hall, Option.bind_some, Int.tmod_eq_emod_of_nonneg hb.1, if_pos (inR_i64.2 (by omega)), Int.tmod_eq_emod_of_nonneg (by omega), itoaF_nat _ (by omega), Option.bind_some,
    Go.Lib.decDigits_one (by omega), if_pos (by rw [hlen]; simp)]
  rfl
theorem rmake_eq (ag : List UInt8) (n : Int) : tollwayref11_Make ag n = some (mkR ag n) := by
  unfold tollwayref11_Make mkR
  by_cases hl : ag.length = 3
  · rw [if_pos (by omega), rsum_eq ag (by omega), Option.bind_some, decide_eq_true hl, Bool.and_true]
    cases hd : ag.all dg with
    | false => rfl
    | true =>
    have hd1 := List.all_eq_true.1 hd
    have hb0 := ls_bound ag 0 hd1
    rw [if_pos rfl, if_pos rfl, if_neg (by omega)]
    by_cases h0 : n < 0
    · rw [if_pos h0, if_pos (.inl h0)]
    rw [if_neg h0]
    by_cases h9 : n > 99999999
    · rw [if_pos h9, if_pos (.inr h9)]
    obtain ⟨k, rfl⟩ := Int.eq_ofNat_of_zero_le (show 0 ≤ n by omega)
    have hall : ∀ c ∈ ag ++ pad k 8, dg c = true := fun c hc => by
      rw [List.mem_append] at hc
      rcases hc with hc | hc
      · exact hd1 c hc
      · exact pad_dg 8 _ c hc
    have hlen : (ag ++ pad k 8).length = 11 := by rw [List.length_append, pad_len]; omega
    have hb := ls_bound _ 0 hall
    have hrd := rdigits_eq k 8 (by decide) (by omega)
    rw [if_neg h9, if_neg (by omega), show ((8 : Nat) : Int) = 8 from rfl] at *
    rw [hrd, Option.bind_some, if_pos (by rw [pad_len]; omega), rsum_eq _ (by omega), Option.bind_some, if_pos (List.all_eq_true.2 hall), Int.tmod_eq_emod_of_nonneg hb.1, if_pos (inR_i64.2 (by omega)), Int.tmod_eq_emod_of_nonneg (by omega)]
    have e : (10 - ls 0 (ag ++ pad k 8) % 10) % 10 = ((((10 - ls 0 (ag ++ pad k 8) % 10) % 10).toNat : Nat) : Int) := by omega
    have hr1 := rdigits_eq ((10 - ls 0 (ag ++ pad k 8) % 10) % 10).toNat 1 (by decide) (by omega)
    rw [← e] at hr1
    rw [show ((1 : Nat) : Int) = 1 from rfl] at hr1
    rw [hr1, Option.bind_some, if_pos (by rw [hlen, pad_len]; decide)]
    unfold mkS
    rw [show Int.toNat (k : Int) = k by omega, pad_front 0]
    simp only [Nat.pow_zero, Nat.div_one]
    rw [show ((10 - ls 0 (ag ++ pad k 8) % 10) % 10).toNat % 10 = ((10 - ls 0 (ag ++ pad k 8) % 10) % 10).toNat by omega]
    rfl
  · rw [if_neg (by omega), if_neg (by simp [hl])]
/-- what holds of the element at a place of a valid list -/
def okAt (l : List Tapi_TagState) (k : Nat) (x : Tapi_TagState) : Prop :=
  chk x.Tag = 0 ∧ (0 ≤ x.From ∧ x.From < 68719476736) ∧ (1 ≤ x.State ∧ x.State ≤ 3) ∧ ∀ p, 0 < k → l[k - 1]? = some p → cmpT p x < 0
def okL (l : List Tapi_TagState) : Prop := ∀ (k : Nat) x, l[k]? = some x → okAt l k x
theorem checkAll_res (l : List Tapi_TagState) : ∃ r, tag_CheckAll l = some r ∧ (l.length > 1024 → r = 3) ∧ (l.length ≤ 1024 → ((r = 0 ∧ okL l) ∨ (r ≠ 0 ∧ ¬ okL l))) := by
  unfold tag_CheckAll
  by_cases hl : (l.length : Int) > 1024
  · rw [if_pos hl]; exact ⟨3, rfl, fun _ => rfl, fun h => by omega⟩
  rw [if_neg hl]
  have key := lp_inv (step := tag_CheckAll_L2_step l) (fun k : Nat => k ≤ l.length ∧ ∀ (j : Nat) x, j < k → l[j]? = some x → okAt l j x) (fun k => l.length - k) (fun r => (∃ e, r = .inl e ∧ e ≠ 0 ∧ ¬ okL l) ∨ (r = .inr () ∧ okL l)) ?_ 0 ⟨Nat.zero_le _, fun j x h => by omega⟩
  · obtain ⟨r, h, hq⟩ := key
    rw [h, Option.bind_some]
    rcases hq with ⟨e, rfl, h1, h2⟩ | ⟨rfl, h2⟩
    · exact ⟨e, rfl, fun h => by omega, fun _ => .inr ⟨h1, h2⟩⟩
    · exact ⟨0, rfl, fun h => by omega, fun _ => .inl ⟨rfl, h2⟩⟩
  rintro k ⟨h1, h2⟩
  unfold tag_CheckAll_L2_step
  by_cases hk : k < l.length
  · obtain ⟨x, hx⟩ : ∃ x, l[k]? = some x := ⟨_, List.getElem?_eq_getElem hk⟩
    have hi : InR .i64 ((k : Int) + 1) := inR_i64.2 (by omega)
    rw [if_pos (by omega), hx, Option.bind_some, check_eq, Option.bind_some]
    have bad : ¬ okAt l k x → ¬ okL l := fun h g => h (g k x hx)
    have good : okAt l k x → ∀ (j : Nat) y, j < k + 1 → l[j]? = some y → okAt l j y := fun h j y hj hy => by
      rcases Nat.lt_or_ge j k with h' | h'
      · exact h2 j y h' hy
      · have : j = k := by omega
        subst this
        rw [hx] at hy; obtain rfl := Option.some.inj hy
        exact h
    rcases chk_or x.Tag with hc | hc
    · rw [hc, if_pos rfl]
      by_cases a1 : x.From < 0
      · rw [if_pos a1]; exact .inr ⟨_, rfl, .inl ⟨_, rfl, by decide, bad fun h => by have := h.2.1; omega⟩⟩
      rw [if_neg a1]
      by_cases a2 : x.From ≥ 68719476736
      · rw [if_pos a2]; exact .inr ⟨_, rfl, .inl ⟨_, rfl, by decide, bad fun h => by have := h.2.1; omega⟩⟩
      rw [if_neg a2]
      by_cases a3 : x.State < 1
      · rw [if_pos a3]; exact .inr ⟨_, rfl, .inl ⟨_, rfl, by decide, bad fun h => by have := h.2.2.1; omega⟩⟩
      rw [if_neg a3]
      by_cases a4 : x.State > 3
      · rw [if_pos a4]; exact .inr ⟨_, rfl, .inl ⟨_, rfl, by decide, bad fun h => by have := h.2.2.1; omega⟩⟩
      rw [if_neg a4]
      by_cases h0 : (k : Int) > 0
      · obtain ⟨p, hp⟩ : ∃ p, l[k - 1]? = some p := ⟨_, List.getElem?_eq_getElem (by omega)⟩
        rw [if_pos h0, if_pos (inR_i64.2 (by omega)), if_pos (by omega), show Int.toNat ((k : Int) - 1) = k - 1 by omega, hp, Option.bind_some, compare_eq, Option.bind_some]
        by_cases hcmp : cmpT p x ≥ 0
        · rw [if_pos hcmp]; exact .inr ⟨_, rfl, .inl ⟨_, rfl, by decide, bad fun h => by have := h.2.2.2 p (by omega) hp; omega⟩⟩
        · rw [if_neg hcmp, if_pos hi]
          refine .inl ⟨_, rfl, ⟨hk, good ⟨hc, by omega, by omega, fun p' _ hp' => ?_⟩⟩, by omega⟩
          rw [hp] at hp'; obtain rfl := Option.some.inj hp'; omega
      · rw [if_neg h0, if_pos hi]
        exact .inl ⟨_, rfl, ⟨hk, good ⟨hc, by omega, by omega, fun p' h' _ => by omega⟩⟩, by omega⟩
    · rw [hc, if_neg (by decide)]
      exact .inr ⟨_, rfl, .inl ⟨_, rfl, by decide, bad fun h => by have := h.1; omega⟩⟩
  · rw [if_neg (by omega)]
    exact .inr ⟨_, rfl, .inr ⟨rfl, fun j x hx => h2 j x (by have := (List.getElem?_eq_some_iff.1 hx).1; omega) hx⟩⟩
theorem alive_true : tollwaylaw11_alive = some true := by
  unfold tollwaylaw11_alive
  rw [make_eq, make_eq, make_eq, Option.bind_some, Option.bind_some, Option.bind_some,
    show mkR [48, 48, 49] 1 = ([48, 48, 49, 48, 48, 48, 48, 48, 48, 48, 49, 54], 0) by kernel_rfl, show mkR [48, 49] 1 = ([], 30) by kernel_rfl, show mkR [48, 48, 49] (-1) = ([], 2) by kernel_rfl,
    check_eq, show chk [48, 48, 49, 48, 48, 48, 48, 48, 48, 48, 49, 55] = 18 by kernel_rfl]
  dsimp only
  rw [if_pos rfl, if_pos rfl, if_pos rfl, if_pos rfl, Option.bind_some, if_pos rfl]
  obtain ⟨r, hr, -, h2⟩ := checkAll_res [⟨[48, 48, 49, 48, 48, 48, 48, 48, 48, 48, 49, 54], 5, 2⟩, ⟨[48, 48, 49, 48, 48, 48, 48, 48, 48, 48, 49, 54], 9, 1⟩]
  have hz : r = 0 := by
    rcases h2 (by decide) with ⟨h, _⟩ | ⟨_, h⟩
    · exact h
    · exfalso
      apply h
      intro k x hx
      match k, hx with
      | 0, hx =>
        obtain rfl := Option.some.inj hx
        exact ⟨by kernel_rfl, by decide, by decide, fun p h => by omega⟩
      | 1, hx =>
        obtain rfl := Option.some.inj hx
        refine ⟨by kernel_rfl, by decide, by decide, fun p _ hp => ?_⟩
        obtain rfl := Option.some.inj hp
        decide
  rw [hr, Option.bind_some, hz, if_pos rfl, state_eq _ _ _ (by decide), state_eq _ _ _ (by decide), state_eq _ _ _ (by decide), state_eq _ _ _ (by decide), state_eq _ _ _ (by decide),
    Option.bind_some, Option.bind_some, Option.bind_some, Option.bind_some, Option.bind_some]
  rfl
end Go.Proofs.YtalobodhbbkgdaaDoor.Av
