/- The law TagMisread holds. -/
import Derived.Test.YtalobodhbbkgdaaDoorPT4
import Derived.Test.YtalobodhbbkgdaaDoorL8
set_option linter.unusedVariables false
set_option linter.unusedSimpArgs false
set_option maxHeartbeats 4000000
namespace Go.Proofs.YtalobodhbbkgdaaDoor.Av
open Go Go.Proofs
theorem ls_set (s : List UInt8) : ∀ (i k : Nat) (x y : UInt8), s[k]? = some x → ls i (s.set k y) = ls i s - lv (i + k) x + lv (i + k) y := by
  induction s with
  | nil => intro i k x y h; simp at h
  | cons c s ih =>
    intro i k x y h
    cases k with
    | zero =>
      simp only [List.getElem?_cons_zero, Option.some.injEq] at h
      subst h
      simp only [List.set_cons_zero, ls, Nat.add_zero]; omega
    | succ k =>
      simp only [List.getElem?_cons_succ] at h
      simp only [List.set_cons_succ, ls, ih (i + 1) k x y h]
      rw [show i + 1 + k = i + (k + 1) by omega]; omega
theorem chk_bad {s : List UInt8} (h : ls 0 s % 10 ≠ 0) : chk s = 18 := by
  rcases chk_or s with g | g
  · exact absurd (chk_zero g).2.2 h
  · exact g
theorem lv_ne (k : Nat) (x y : UInt8) (hx : dg x = true) (hy : dg y = true) (h : x.toNat ≠ y.toNat) : (lv k y - lv k x) % 10 ≠ 0 := by
  have := dg_iff.1 hx
  have := dg_iff.1 hy
  unfold lv
  split <;> (try split) <;> (try split) <;> omega
theorem lv_e {k : Nat} {c : UInt8} (h : k % 2 = 0) : lv k c = if ((c.toNat : Int) - 48) * 2 > 9 then ((c.toNat : Int) - 48) * 2 - 9 else ((c.toNat : Int) - 48) * 2 := by
  unfold lv; rw [if_pos h]
theorem lv_o {k : Nat} {c : UInt8} (h : k % 2 = 1) : lv k c = (c.toNat : Int) - 48 := by
  unfold lv; rw [if_neg (by omega)]
theorem lv_swap (k : Nat) (a b : UInt8) (ha : dg a = true) (hb : dg b = true) (h : a.toNat ≠ b.toNat) (h1 : ¬ (a.toNat = 48 ∧ b.toNat = 57)) (h2 : ¬ (a.toNat = 57 ∧ b.toNat = 48)) :
    (lv k b - lv k a + (lv (k + 1) a - lv (k + 1) b)) % 10 ≠ 0 := by
  have := dg_iff.1 ha
  have := dg_iff.1 hb
  rcases Nat.mod_two_eq_zero_or_one k with e | e
  · rw [lv_e e, lv_e e, lv_o (by omega), lv_o (by omega)]
    split <;> split <;> omega
  · rw [lv_o e, lv_o e, lv_e (by omega), lv_e (by omega)]
    split <;> split <;> omega
theorem swap_bad (s : List UInt8) (k : Nat) (a b : UInt8) (ha : s[k]? = some a) (hb : s[k + 1]? = some b) (hd : ∀ c ∈ s, dg c = true) (hs : ls 0 s % 10 = 0) (h : a.toNat ≠ b.toNat) (h1 : ¬ (a.toNat = 48 ∧ b.toNat = 57)) (h2 : ¬ (a.toNat = 57 ∧ b.toNat = 48)) :
    chk ((s.set k b).set (k + 1) a) = 18 := by
  apply chk_bad
  have e1 : (s.set k b)[k + 1]? = some b := by rw [List.getElem?_set, if_neg (by omega)]; exact hb
  rw [ls_set _ 0 (k + 1) b a e1, ls_set s 0 k a b ha, Nat.zero_add, Nat.zero_add]
  have := lv_swap k a b (hd a (List.mem_of_getElem? ha)) (hd b (List.mem_of_getElem? hb)) h h1 h2
  omega
theorem tollwaylaw11_TagMisread_true (a n at' by' : Int) (ha : InR .u16 a) (hn : InR .u32 n) (hat : InR .u8 at') (hby : InR .u8 by') : tollwaylaw11_TagMisread a n at' by' = some true := by
  have ha : 0 ≤ a ∧ a ≤ 65535 := ha
  have hn : 0 ≤ n ∧ n ≤ 4294967295 := hn
  have hat : 0 ≤ at' ∧ at' ≤ 255 := hat
  have hby : 0 ≤ by' ∧ by' ≤ 255 := hby
  unfold tollwaylaw11_TagMisread
  rw [Int.tmod_eq_emod_of_nonneg ha.1]
  have hb : 0 ≤ a % 1000 ∧ a % 1000 < 1000 := by omega
  generalize a % 1000 = b at hb
  rw [Int.tdiv_eq_ediv_of_nonneg hb.1, Int.tdiv_eq_ediv_of_nonneg hb.1, Int.tmod_eq_emod_of_nonneg hb.1, Int.tmod_eq_emod_of_nonneg (by omega : 0 ≤ b / 10)]
  rw [if_pos (inR_i64.2 (by omega)), if_pos (inR_i64.2 (by omega)), if_pos (inR_u8.2 (by omega)), if_pos (inR_u8.2 (by omega)), if_pos (inR_i64.2 (by omega)), if_pos (inR_u8.2 (by omega)), if_pos (inR_u8.2 (by omega)), if_pos (inR_u8.2 (by omega)), if_pos (inR_u8.2 (by omega)), Option.bind_some, if_pos (inR_i64.2 (by omega))]
  have h1 : ∀ c ∈ ([UInt8.ofNat (Int.toNat (48 + b / 100)), UInt8.ofNat (Int.toNat (48 + b / 10 % 10)), UInt8.ofNat (Int.toNat (48 + b % 10))] : List UInt8), dg c = true := by
    intro c hc
    simp only [List.mem_cons, List.not_mem_nil, or_false] at hc
    rcases hc with rfl | rfl | rfl <;> exact dgI (by omega)
  generalize hag : ([UInt8.ofNat (Int.toNat (48 + b / 100)), UInt8.ofNat (Int.toNat (48 + b / 10 % 10)), UInt8.ofNat (Int.toNat (48 + b % 10))] : List UInt8) = ag at h1
  have h2 : ag.length = 3 := by rw [← hag]; rfl
  rw [Int.tmod_eq_emod_of_nonneg hn.1]
  obtain ⟨m, hm⟩ := Int.eq_ofNat_of_zero_le (show 0 ≤ n % 100000000 by omega)
  have hm2 : m < 100000000 := by omega
  rw [hm, make_eq, mkR_ok ag m h1 h2 hm2, Option.bind_some]
  dsimp only
  obtain ⟨hd, hl, hs⟩ := chk_zero (mk_chk ag m h1 h2)
  generalize mkS ag m = s at hd hl hs
  have hmod : Int.tmod at' 12 = ((at'.toNat % 12 : Nat) : Int) := by rw [Int.tmod_eq_emod_of_nonneg hat.1]; omega
  have hk : at'.toNat % 12 < 12 := Nat.mod_lt _ (by decide)
  rw [hmod, Int.tmod_eq_emod_of_nonneg hby.1]
  generalize at'.toNat % 12 = k at hk
  have hj : 0 ≤ by' % 9 ∧ by' % 9 ≤ 8 := by omega
  generalize by' % 9 = j at hj
  obtain ⟨x, hx⟩ : ∃ x, s[k]? = some x := ⟨_, List.getElem?_eq_getElem (by omega)⟩
  have dx := dg_iff.1 (hd x (List.mem_of_getElem? hx))
  rw [if_pos rfl, if_pos (by omega), if_pos (inR_i64.2 (by omega)), if_pos (by omega), show Int.toNat (k : Int) = k by omega, hx, Option.bind_some]
  rw [Int.tmod_eq_emod_of_nonneg (by omega : 0 ≤ (((x.toNat : Int) - 48) + 1) + j), if_pos (inR_u8.2 (by omega)), if_pos (inR_u8.2 (by omega)), if_pos (inR_u8.2 (by omega)), if_pos (inR_u8.2 (by omega)), Option.bind_some, if_pos (inR_u8.2 (by omega)), Option.bind_some]
  have e0 : 0 ≤ ((((x.toNat : Int) - 48) + 1) + j) % 10 ∧ ((((x.toNat : Int) - 48) + 1) + j) % 10 < 10 := by omega
  have e1 : ((((x.toNat : Int) - 48) + 1) + j) % 10 ≠ (x.toNat : Int) - 48 := by omega
  generalize ((((x.toNat : Int) - 48) + 1) + j) % 10 = v at e0 e1
  have dy := dgI e0
  have hv : (UInt8.ofNat (Int.toNat (48 + v))).toNat = 48 + v.toNat := by
    rw [show Int.toNat (48 + v) = 48 + v.toNat by omega]; exact ofNat_toNat (by omega)
  have hc1 : chk (s.set k (UInt8.ofNat (Int.toNat (48 + v)))) = 18 := by
    apply chk_bad
    rw [ls_set s 0 k x _ hx]
    have := lv_ne (0 + k) x _ (hd x (List.mem_of_getElem? hx)) dy (by rw [hv]; omega)
    omega
  rw [check_eq, hc1, Option.bind_some, if_pos rfl, alive_true]
  by_cases h11 : (k : Int) = 11
  · rw [if_pos h11]; rfl
  obtain ⟨y, hy⟩ : ∃ y, s[k + 1]? = some y := ⟨_, List.getElem?_eq_getElem (by omega)⟩
  rw [if_neg h11, if_pos (inR_i64.2 (by omega)), if_pos (by omega), show Int.toNat ((k : Int) + 1) = k + 1 by omega, hy, Option.bind_some]
  by_cases hxy : (x.toNat : Int) = (y.toNat : Int)
  · rw [if_pos hxy]; rfl
  rw [if_neg hxy]
  have hz : (s.set k y)[k + 1]? = some y := by rw [List.getElem?_set, if_neg (by omega)]; exact hy
  have hlen : k + 1 < s.length := by omega
  have tail : ¬ (x.toNat = 48 ∧ y.toNat = 57) → ¬ (x.toNat = 57 ∧ y.toNat = 48) → tag_Check ((s.set k y).set (k + 1) x) = some 18 := fun g1 g2 => by
    rw [check_eq, swap_bad s k x y hx hy hd hs (by omega) g1 g2]
  by_cases g1 : (x.toNat : Int) = 48
  · rw [if_pos g1]
    by_cases g2 : (y.toNat : Int) = 57
    · rw [if_pos g2]; rfl
    · rw [if_neg g2, if_neg (show ¬ (x.toNat : Int) = 57 by omega), if_pos hlen, hz, Option.bind_some, Option.bind_some, tail (by omega) (by omega)]; rfl
  · rw [if_neg g1]
    by_cases g2 : (x.toNat : Int) = 57
    · rw [if_pos g2]
      by_cases g3 : (y.toNat : Int) = 48
      · rw [if_pos g3]; rfl
      · rw [if_neg g3, if_pos hlen, hz, Option.bind_some, Option.bind_some, tail (by omega) (by omega)]; rfl
    · rw [if_neg g2, if_pos hlen, hz, Option.bind_some, Option.bind_some, tail (by omega) (by omega)]; rfl
end Go.Proofs.YtalobodhbbkgdaaDoor.Av
