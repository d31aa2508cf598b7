/- What Make gives is a number again; the law TagBack holds. -/
import Derived.Test.YtalobodhbbkgdaaDoorPT3
import Derived.Test.YtalobodhbbkgdaaDoorL5
set_option linter.unusedVariables false
set_option linter.unusedSimpArgs false
set_option maxHeartbeats 1000000
namespace Go.Proofs.YtalobodhbbkgdaaDoor.Av
open Go Go.Proofs
theorem ofNat_toNat {d : Nat} (h : d < 10) : (UInt8.ofNat (48 + d)).toNat = 48 + d := by
  rw [UInt8.toNat_ofNat']; omega
theorem lt108 {n : Nat} (h : n < 100000000) : n < 10 ^ 8 := by
  have : (10 : Nat) ^ 8 = 100000000 := by decide
  omega
theorem nm_pad (m : Nat) : ∀ n, n < 10 ^ m → nmN (pad n m) = n := by
  induction m with
  | zero => intro n h; simp at h; subst h; rfl
  | succ m ih =>
    intro n h
    rw [pad, nmN_snoc, ih (n / 10) (by rw [Nat.pow_succ] at h; omega), ofNat_toNat (by omega)]
    omega
theorem mk_last (ag : List UInt8) (n : Nat) : ∃ d : Nat, d < 10 ∧ mkS ag n = (ag ++ pad n 8) ++ [UInt8.ofNat (48 + d)] ∧ (d : Int) = (10 - ls 0 (ag ++ pad n 8) % 10) % 10 :=
  ⟨((10 - ls 0 (ag ++ pad n 8) % 10) % 10).toNat, by omega, rfl, by omega⟩
theorem mk_chk (ag : List UInt8) (n : Nat) (h1 : ∀ c ∈ ag, dg c = true) (h2 : ag.length = 3) : chk (mkS ag n) = 0 := by
  obtain ⟨d, hd, he, hs⟩ := mk_last ag n
  rw [he]
  refine chk_of (fun c hc => ?_) (by simp [pad_len, h2]) ?_
  · simp only [List.mem_append, List.mem_singleton] at hc
    rcases hc with (hc | hc) | rfl
    · exact h1 c hc
    · exact pad_dg 8 n c hc
    · exact ofNat_dg hd
  · rw [ls_app, show (ag ++ pad n 8).length = 11 by simp [pad_len, h2]]
    have : ls (0 + 11) [UInt8.ofNat (48 + d)] = (d : Int) := by
      unfold ls lv ls
      rw [if_neg (by decide), ofNat_toNat hd]; omega
    rw [this, hs]; omega
theorem mk_len (ag : List UInt8) (n : Nat) (h2 : ag.length = 3) : (mkS ag n).length = 12 := by
  obtain ⟨d, hd, he, hs⟩ := mk_last ag n
  rw [he]; simp [pad_len, h2]
theorem mk_take (ag : List UInt8) (n : Nat) (h2 : ag.length = 3) : (mkS ag n).take 3 = ag := by
  obtain ⟨d, hd, he, hs⟩ := mk_last ag n
  rw [he, List.append_assoc, List.take_left' h2]
theorem mk_nm (ag : List UInt8) (n : Nat) (h2 : ag.length = 3) (hn : n < 100000000) : nmN (((mkS ag n).take 11).drop 3) = n := by
  obtain ⟨d, hd, he, hs⟩ := mk_last ag n
  rw [he, List.take_left' (by simp [pad_len, h2]), List.drop_left' h2, nm_pad 8 n (lt108 (by omega))]
theorem mkR_ok (ag : List UInt8) (n : Nat) (h1 : ∀ c ∈ ag, dg c = true) (h2 : ag.length = 3) (hn : n < 100000000) : mkR ag n = (mkS ag n, 0) := by
  unfold mkR
  rw [if_pos (by simp only [Bool.and_eq_true, decide_eq_true_eq, List.all_eq_true]; exact ⟨h1, h2⟩), if_neg (by omega), show Int.toNat (n : Int) = n by omega]
theorem dgI {x : Int} (h : 0 ≤ x ∧ x < 10) : dg (UInt8.ofNat (Int.toNat (48 + x))) = true := by
  obtain ⟨d, rfl⟩ := Int.eq_ofNat_of_zero_le h.1
  rw [show Int.toNat (48 + (d : Int)) = 48 + d by omega]
  exact ofNat_dg (by omega)
theorem tollwaylaw11_TagBack_true (a n : Int) (ha : InR .u16 a) (hn : InR .u32 n) : tollwaylaw11_TagBack a n = some true := by
  have ha : 0 ≤ a ∧ a ≤ 65535 := ha
  have hn : 0 ≤ n ∧ n ≤ 4294967295 := hn
  unfold tollwaylaw11_TagBack
  rw [Int.tmod_eq_emod_of_nonneg ha.1]
  have hb : 0 ≤ a % 1000 ∧ a % 1000 < 1000 := by omega
  generalize a % 1000 = b at hb
  rw [Int.tdiv_eq_ediv_of_nonneg hb.1, Int.tdiv_eq_ediv_of_nonneg hb.1, Int.tmod_eq_emod_of_nonneg hb.1, Int.tmod_eq_emod_of_nonneg (by omega : 0 ≤ b / 10)]
  rw [if_pos (inR_i64.2 (by omega)), if_pos (inR_i64.2 (by omega)), if_pos (inR_u8.2 (by omega)), if_pos (inR_u8.2 (by omega)), if_pos (inR_i64.2 (by omega)), if_pos (inR_u8.2 (by omega)), if_pos (inR_u8.2 (by omega)), if_pos (inR_u8.2 (by omega)), if_pos (inR_u8.2 (by omega)), Option.bind_some, if_pos (inR_i64.2 (by omega))]
  have h1 : ∀ c ∈ ([UInt8.ofNat (Int.toNat (48 + b / 100)), UInt8.ofNat (Int.toNat (48 + b / 10 % 10)), UInt8.ofNat (Int.toNat (48 + b % 10))] : List UInt8), dg c = true := by
    intro c hc
    simp only [List.mem_cons, List.not_mem_nil, or_false] at hc
    rcases hc with rfl | rfl | rfl <;> exact dgI (by omega)
  generalize hag : ([UInt8.ofNat (Int.toNat (48 + b / 100)), UInt8.ofNat (Int.toNat (48 + b / 10 % 10)), UInt8.ofNat (Int.toNat (48 + b % 10))] : List UInt8) = ag at h1
  have h2 : ag.length = 3 := by rw [← hag]; rfl
  rw [Int.tmod_eq_emod_of_nonneg hn.1]
  obtain ⟨m, hm⟩ := Int.eq_ofNat_of_zero_le (show 0 ≤ n % 100000000 by omega)
  have hm2 : m < 100000000 := by omega
  rw [hm, make_eq, mkR_ok ag m h1 h2 hm2, Option.bind_some]
  dsimp only
  have hc := mk_chk ag m h1 h2
  rw [if_pos rfl, if_pos (by rw [mk_len ag m h2]; rfl), check_eq, Option.bind_some, hc, if_pos rfl, agency_eq, serial_eq, hc, if_pos rfl, if_pos rfl, mk_take ag m h2, mk_nm ag m h2 hm2, Option.bind_some, Option.bind_some]
  dsimp only
  rw [make_eq, mkR_ok ag m h1 h2 hm2, Option.bind_some]
  dsimp only
  rw [if_pos rfl, if_pos rfl, if_pos rfl, if_pos rfl, if_pos rfl, if_pos rfl, alive_true]; rfl
theorem u8_lt_irr (c : UInt8) : ¬ c < c := by rw [UInt8.lt_iff_toNat_lt]; omega
theorem cmp_app (p a b : List UInt8) : Go.Lib.compareBytes (p ++ a) (p ++ b) = Go.Lib.compareBytes a b := by
  induction p with
  | nil => rfl
  | cons c p ih =>
    rw [List.cons_append, List.cons_append, Go.Lib.compareBytes, if_neg (u8_lt_irr c), if_neg (u8_lt_irr c), ih]
theorem cmp_lt_app (a : List UInt8) : ∀ (b x y : List UInt8), a.length = b.length → Go.Lib.compareBytes a b = -1 → Go.Lib.compareBytes (a ++ x) (b ++ y) = -1 := by
  induction a with
  | nil =>
    intro b x y hl h
    cases b with
    | nil => simp [Go.Lib.compareBytes] at h
    | cons c b => simp at hl
  | cons c a ih =>
    intro b x y hl h
    cases b with
    | nil => simp at hl
    | cons d b =>
      rw [Go.Lib.compareBytes] at h
      rw [List.cons_append, List.cons_append, Go.Lib.compareBytes]
      by_cases h1 : c < d
      · rw [if_pos h1]
      · rw [if_neg h1] at h ⊢
        by_cases h2 : d < c
        · rw [if_pos h2] at h; cases h
        · rw [if_neg h2] at h ⊢
          exact ih b x y (by simpa using hl) h
theorem pad_lt (m : Nat) : ∀ n k, n < k → k < 10 ^ m → Go.Lib.compareBytes (pad n m) (pad k m) = -1 := by
  induction m with
  | zero => intro n k h1 h2; simp at h2; omega
  | succ m ih =>
    intro n k h1 h2
    rw [Nat.pow_succ] at h2
    rw [pad, pad]
    by_cases h : n / 10 < k / 10
    · exact cmp_lt_app _ _ _ _ (by rw [pad_len, pad_len]) (ih _ _ h (by omega))
    · rw [show n / 10 = k / 10 by omega, cmp_app, Go.Lib.compareBytes, if_pos]
      rw [UInt8.lt_iff_toNat_lt, ofNat_toNat (by omega), ofNat_toNat (by omega)]; omega
theorem mk_lt (ag : List UInt8) (n k : Nat) (h1 : n < k) (h2 : k < 100000000) : Go.Lib.compareBytes (mkS ag n) (mkS ag k) = -1 := by
  unfold mkS
  rw [List.append_assoc, List.append_assoc, cmp_app]
  exact cmp_lt_app _ _ _ _ (by rw [pad_len, pad_len]) (pad_lt 8 n k h1 (lt108 (by omega)))
end Go.Proofs.YtalobodhbbkgdaaDoor.Av
