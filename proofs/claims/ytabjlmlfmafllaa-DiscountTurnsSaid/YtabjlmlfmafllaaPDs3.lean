/- Discounts: what Best comes to; the reference too. -/
import Derived.Test.YtabjlmlfmafllaaPDs2
import Derived.Test.YtabjlmlfmafllaaK2
set_option linter.unusedVariables false
set_option linter.unusedSimpArgs false
set_option maxHeartbeats 1000000
namespace Go.Proofs.Ytabjlmlfmafllaa.Av
open Go Go.Proofs
theorem add_step (l : List Tapi_Discount) (cents : Int) (hl : l.length ≤ 12) (hc : 0 ≤ cents ∧ cents ≤ 1125899906842624) (rec : Int → Int → Int → List Int → List Int → Option (Int × List Int × List Int)) (i : Nat) (hi : i ≤ l.length)
    (hrec : ∀ j, i ≤ j → j < l.length → AddOk l cents rec (j + 1)) : AddOk l cents (discount_Best_C6 l cents rec) i := by
  intro now d hn hx hd
  have hnl := asc_len hn.asc hn.lt
  -- from the better of the two
  have go : ∀ d0 : List Nat, d0 = (if better (amtR l cents) cents now d = true then now else d) → ∃ d', lp (discount_Best_L2136_step l cents (gsum (amtR l cents) now) (up now) rec) (gval (amtR l cents) cents d0, (i : Int), up now, up d0) = some (gval (amtR l cents) cents d', up now, up d') ∧ GoodC l.length (confR l) d' ∧ better (amtR l cents) cents d d' = false ∧
      ∀ c, GoodC l.length (confR l) c → (∃ e, c = now ++ e ∧ ∀ x ∈ e, i ≤ x) → better (amtR l cents) cents c d' = false := by
    intro d0 e
    have hd0 : GoodC l.length (confR l) d0 := by rw [e]; split <;> assumption
    have h1 : better (amtR l cents) cents d d0 = false := by
      rw [e]; split
      · rename_i h; exact b_nb h
      · exact better_irrefl d
    have h2 : better (amtR l cents) cents now d0 = false := by
      rw [e]; split
      · exact better_irrefl now
      · rename_i h; simpa using h
    obtain ⟨d', k1, k2, k3, k4⟩ := add_loop l cents hl hc rec now (up now) hn (l.length - i) i d0 (by omega) hx hd0 hrec
    refine ⟨d', k1, k2, nb_trans h1 k3, ?_⟩
    rintro c hcg ⟨e, rfl, he⟩
    cases e with
    | nil => rw [List.append_nil]; exact nb_trans h2 k3
    | cons j e => exact k4 _ hcg ⟨j, e, he j (by simp), rfl⟩
  unfold discount_Best_C6
  rw [min_val]
  by_cases g1 : gval (amtR l cents) cents now > gval (amtR l cents) cents d
  · have hb : better (amtR l cents) cents now d = true := by unfold better; simp [g1]
    obtain ⟨d', k1, k2⟩ := go now (by rw [if_pos hb])
    exact ⟨d', ite_t g1 (bind_i (clone_eq now (by omega)) (bind_i k1 rfl)), k2⟩
  · by_cases g2 : gval (amtR l cents) cents now = gval (amtR l cents) cents d
    · by_cases g3 : now.length < d.length
      · have hb : better (amtR l cents) cents now d = true := by unfold better; simp [g2, g3]
        obtain ⟨d', k1, k2⟩ := go now (by rw [if_pos hb])
        exact ⟨d', ite_f g1 (ite_t g2 (ite_t (by rw [up_len, up_len]; omega) (bind_i (clone_eq now (by omega)) (bind_i k1 rfl)))), k2⟩
      · by_cases g4 : now.length = d.length
        · obtain ⟨r, h1, h2⟩ := compare_eq now d g4 (by omega)
          by_cases g5 : r < 0
          · have hb : better (amtR l cents) cents now d = true := by unfold better; rw [← h2]; simp [g2, g4, g5]
            obtain ⟨d', k1, k2⟩ := go now (by rw [if_pos hb])
            exact ⟨d', ite_f g1 (ite_t g2 (ite_f (by rw [up_len, up_len]; omega) (ite_t (by rw [up_len, up_len]; omega) (bind_i h1 (ite_t g5 (bind_i (clone_eq now (by omega)) (bind_i k1 rfl))))))), k2⟩
          · have hb : ¬ better (amtR l cents) cents now d = true := by
              have h3 : lexlt now d = false := by rw [← h2]; simp [g5]
              unfold better; rw [h3]; simp [g2, g4]
            obtain ⟨d', k1, k2⟩ := go d (by rw [if_neg hb])
            exact ⟨d', ite_f g1 (ite_t g2 (ite_f (by rw [up_len, up_len]; omega) (ite_t (by rw [up_len, up_len]; omega) (bind_i h1 (ite_f g5 (bind_i k1 rfl)))))), k2⟩
        · have hb : ¬ better (amtR l cents) cents now d = true := by unfold better; simp [g2, g3, g4]
          obtain ⟨d', k1, k2⟩ := go d (by rw [if_neg hb])
          exact ⟨d', ite_f g1 (ite_t g2 (ite_f (by rw [up_len, up_len]; omega) (ite_f (by rw [up_len, up_len]; omega) (bind_i k1 rfl)))), k2⟩
    · have hb : ¬ better (amtR l cents) cents now d = true := by unfold better; simp [g1, g2]
      obtain ⟨d', k1, k2⟩ := go d (by rw [if_neg hb])
      exact ⟨d', ite_f g1 (ite_f g2 (bind_i k1 rfl)), k2⟩
theorem add_fuel (l : List Tapi_Discount) (cents : Int) (hl : l.length ≤ 12) (hc : 0 ≤ cents ∧ cents ≤ 1125899906842624) : ∀ k i : Nat, l.length < i + k → i ≤ l.length → AddOk l cents (discount_Best_C6_fuel l cents k) i
  | 0, i, h, hi => by omega
  | k + 1, i, h, hi => add_step l cents hl hc (discount_Best_C6_fuel l cents k) i hi fun j hj hjl => add_fuel l cents hl hc k (j + 1) (by omega) (by omega)
theorem gval_nil (l : List Tapi_Discount) (cents : Int) (hc : 0 ≤ cents) : gval (amtR l cents) cents [] = 0 := by
  unfold gval gsum; rw [if_neg (by omega)]
/-- Best: the best of all combinations -/
theorem best_eq (l : List Tapi_Discount) (cents : Int) (hk : discount_CheckAll l = some 0) (hc : 0 ≤ cents ∧ cents ≤ 1125899906842624) (hl : l.length ≤ 12) :
    ∃ d, isBest l.length (confR l) (amtR l cents) cents d ∧ discount_Best l cents = some (up d, gval (amtR l cents) cents d, 0) := by
  obtain ⟨d, h1, h2, h3, h4⟩ := add_fuel l cents hl hc 20 0 (by omega) (by omega) [] [] GoodC.nil (fun x h => by cases h) GoodC.nil
  rw [gval_nil l cents hc.1] at h1
  refine ⟨d, ⟨h2, fun c hcg => h4 c hcg ⟨c, rfl, fun x _ => Nat.zero_le _⟩⟩, ?_⟩
  unfold discount_Best
  exact bind_i hk (ite_t rfl (ite_f (by omega) (ite_f (by omega) (bind_i h1 rfl))))

/-! ### the reference -/
theorem before_eq (a b : List Nat) (hl : a.length = b.length) (hbig : a.length ≤ 4294967296) : tollwayref24_before (up a) (up b) = some (lexlt a b) := by
  have key : ∀ m k : Nat, k + m = a.length → ∃ q, lp (tollwayref24_before_L1_step (up a) (up b)) k = some q ∧ (match q with | .inl o => o = lexlt (a.drop k) (b.drop k) | .inr _ => lexlt (a.drop k) (b.drop k) = false) := by
    intro m
    induction m with
    | zero =>
      intro k hk
      have hk : k = a.length := by omega
      subst hk
      refine ⟨.inr (), lp_end (by unfold tollwayref24_before_L1_step; exact ite_f (by rw [up_len]; omega) rfl), ?_⟩
      rw [List.drop_length, hl, List.drop_length]; rfl
    | succ m ih =>
      intro k hk
      have h1 : k < a.length := by omega
      have h2 : k < b.length := by omega
      have ha : (up a)[k]? = some (a[k] : Int) := by unfold up; rw [List.getElem?_map, List.getElem?_eq_getElem h1]; rfl
      have hb : (up b)[k]? = some (b[k] : Int) := by unfold up; rw [List.getElem?_map, List.getElem?_eq_getElem h2]; rfl
      rw [List.drop_eq_getElem_cons h1, List.drop_eq_getElem_cons h2]
      unfold lexlt
      by_cases e : a[k] = b[k]
      · rw [if_pos e, lp_go (s' := k + 1) (by unfold tollwayref24_before_L1_step; exact ite_t (by rw [up_len]; omega) (ite_t (by rw [up_len]; omega) (bind_i ha (bind_i hb (ite_t (by omega) (guard_i (inR_i64.2 (by omega)) rfl))))))]
        exact ih (k + 1) (by omega)
      · rw [if_neg e]
        refine ⟨.inl (decide ((a[k] : Int) < (b[k] : Int))), lp_end (by unfold tollwayref24_before_L1_step; exact ite_t (by rw [up_len]; omega) (ite_t (by rw [up_len]; omega) (bind_i ha (bind_i hb (ite_f (by omega) rfl))))), ?_⟩
        simp
  obtain ⟨q, h1, h2⟩ := key a.length 0 (by omega)
  unfold tollwayref24_before
  refine bind_i h1 ?_
  rw [List.drop_zero, List.drop_zero] at h2
  cases q with
  | inl o => rw [← h2]
  | inr o =>
    dsimp only at h2 ⊢
    rw [h2, up_len, up_len, hl]; simp
theorem bit_eq (m k : Nat) : Int.tmod (Int.tdiv (m : Int) ((2 ^ k : Nat) : Int)) 2 = (if m.testBit k = true then 1 else 0) := by
  rw [show Int.tdiv (m : Int) ((2 ^ k : Nat) : Int) = ((m / 2 ^ k : Nat) : Int) from rfl, show Int.tmod ((m / 2 ^ k : Nat) : Int) 2 = ((m / 2 ^ k % 2 : Nat) : Int) from rfl, Nat.testBit_eq_decide_div_mod_eq]
  have : m / 2 ^ k % 2 < 2 := Nat.mod_lt _ (by decide)
  by_cases h : m / 2 ^ k % 2 = 1
  · rw [if_pos (decide_eq_true h), h]; rfl
  · have h0 : m / 2 ^ k % 2 = 0 := by
      generalize m / 2 ^ k % 2 = q at this h
      omega
    rw [if_neg (by simp [h]), h0]; rfl
theorem inr_small {n : Nat} (h : n ≤ 4096) : InR .i64 (n : Int) := inR_i64.2 (by omega)
def freeB (l : List Tapi_Discount) (c : List Nat) : Prop := c.Pairwise (fun i j => confR l i j = false)
theorem rbar_eq (l : List Tapi_Discount) (mask v7 : Int) (now : List Nat) (i : Nat) (hn : ∀ x ∈ now, x < l.length) (hi : i < l.length) (hlen : now.length ≤ 4294967296) :
    lp (tollwayref24_chosen_L40_step l mask v7 i (up now)) 0 = some (match fidx (fun x => confR l x i) now 0 with | some k => .inl () | none => .inr ()) := by
  refine lp_find0 (l := now) (step := tollwayref24_chosen_L40_step l mask v7 i (up now)) (fun x => confR l x i) (fun _ => ()) (fun k x hx hk => ?_) ?_
  · have hxl := hn x (List.mem_of_getElem? hx)
    have gx := List.getElem?_eq_getElem hxl
    have gi := List.getElem?_eq_getElem hi
    have hux : (up now)[k]? = some (x : Int) := by unfold up; rw [List.getElem?_map, hx]; rfl
    have e1 : grpR l x = l[x].Group := by unfold grpR; rw [gx]
    have e2 : grpR l i = l[i].Group := by unfold grpR; rw [gi]
    unfold tollwayref24_chosen_L40_step confR
    rw [e1, e2]
    refine ite_t (by rw [up_len]; omega) (bind_i gi ?_)
    by_cases h0 : l[i].Group = []
    · refine ite_t h0 (guard_i (inR_i64.2 (by omega)) ?_)
      rw [if_neg]
      simp only [h0, Bool.and_eq_true, Bool.not_eq_true', decide_eq_true_eq, decide_eq_false_iff_not]
      exact fun h => h.1 h.2
    · refine ite_f h0 (bind_i hux (guard_i (Int.natCast_nonneg _) (bind_i (by rw [Int.toNat_natCast]; exact gx) ?_)))
      by_cases h1 : l[x].Group = l[i].Group
      · refine ite_t h1 ?_; rw [if_pos (by simp only [Bool.and_eq_true, Bool.not_eq_true', decide_eq_true_eq, decide_eq_false_iff_not]; exact ⟨by rw [h1]; exact h0, h1⟩)]
      · refine ite_f h1 (guard_i (inR_i64.2 (by omega)) ?_); simp [h1]
  · unfold tollwayref24_chosen_L40_step
    exact ite_f (by rw [up_len]; omega) rfl
theorem chosen_loop (l : List Tapi_Discount) (hl : l.length ≤ 12) (m : Nat) (hm : m < 2 ^ l.length) : ∀ n k : Nat, k + n = l.length → freeB l (bl k m) →
    (freeB l (bl l.length m) ∧ lp (tollwayref24_chosen_L1_step l (m : Int)) (((2 ^ k : Nat) : Int), k, up (bl k m)) = some (.inr (up (bl l.length m)))) ∨
    (¬ freeB l (bl l.length m) ∧ lp (tollwayref24_chosen_L1_step l (m : Int)) (((2 ^ k : Nat) : Int), k, up (bl k m)) = some (.inl ()))
  | 0, k, hk, hf => by
    have hk : k = l.length := by omega
    subst hk
    exact .inl ⟨hf, lp_end (by unfold tollwayref24_chosen_L1_step; exact ite_f (by omega) rfl)⟩
  | n + 1, k, hk, hf => by
    have hlt : k < l.length := by omega
    have hp : 2 ^ k ≤ 4096 := by have := Nat.pow_le_pow_right (n := 2) (by decide) (show k ≤ 12 by omega); simpa using this
    have hp0 : 0 < 2 ^ k := Nat.two_pow_pos _
    have hmb : m < 4096 := by have := Nat.pow_le_pow_right (n := 2) (by decide) hl; omega
    have hdiv : Int.tdiv (m : Int) ((2 ^ k : Nat) : Int) = ((m / 2 ^ k : Nat) : Int) := rfl
    have hd2 : m / 2 ^ k ≤ m := Nat.div_le_self _ _
    have e2 : ((2 ^ k : Nat) : Int) * 2 = ((2 ^ (k + 1) : Nat) : Int) := by rw [Nat.pow_succ]; omega
    have hbl := bl_len k m
    by_cases hb : m.testBit k = true
    · have e1 : bl (k + 1) m = bl k m ++ [k] := by rw [bl_succ, if_pos hb]
      have hbar := rbar_eq l (m : Int) ((2 ^ k : Nat) : Int) (bl k m) k (fun x h => by have := bl_mem h; omega) hlt (by omega)
      have hany := fidx_any (p := fun x => confR l x k) (bl k m) 0
      cases hfi : fidx (fun x => confR l x k) (bl k m) 0 with
      | some q =>
        rw [hfi] at hbar hany
        refine .inr ⟨fun hall => ?_, lp_end ?_⟩
        · have h5 : ((bl k m).any fun x => confR l x k) = true := hany.symm
          rw [List.any_eq_true] at h5
          obtain ⟨x, hxm, hxc⟩ := h5
          have hsub : (bl (k + 1) m).Sublist (bl l.length m) := by
            unfold bl
            refine List.Sublist.filter _ ?_
            exact List.range_sublist.2 (by omega)
          have := hall.sublist hsub
          rw [e1, List.pairwise_append] at this
          have := this.2.2 x hxm k (by simp)
          rw [this] at hxc; cases hxc
        · unfold tollwayref24_chosen_L1_step
          exact ite_t (by omega) (guard_i (by omega) (guard_i (by rw [hdiv]; exact inr_small (Nat.le_trans hd2 (by omega))) (ite_t (by rw [bit_eq, if_pos hb]) (bind_i hbar rfl))))
      | none =>
        rw [hfi] at hbar hany
        have hf2 : freeB l (bl (k + 1) m) := by
          unfold freeB
          rw [e1, List.pairwise_append]
          refine ⟨hf, List.pairwise_singleton .., fun a ha b hb2 => ?_⟩
          simp at hb2; subst hb2
          have h5 : ((bl b m).any fun x => confR l x b) = false := hany.symm
          rw [List.any_eq_false] at h5
          simpa using h5 a ha
        have := chosen_loop l hl m hm n (k + 1) (by omega) hf2
        have hs : tollwayref24_chosen_L1_step l (m : Int) (((2 ^ k : Nat) : Int), k, up (bl k m)) = some (.inl (((2 ^ (k + 1) : Nat) : Int), k + 1, up (bl (k + 1) m))) := by
          unfold tollwayref24_chosen_L1_step
          refine ite_t (by omega) (guard_i (by omega) (guard_i (by rw [hdiv]; exact inr_small (Nat.le_trans hd2 (by omega))) (ite_t (by rw [bit_eq, if_pos hb]) (bind_i hbar (guard_i (by rw [up_len]; omega) (guard_i (inR_i64.2 (by omega)) (guard_i (inR_i64.2 (by omega)) ?_)))))))
          rw [e2, e1, up_app]; rfl
        rw [lp_go hs]
        exact this
    · have e1 : bl (k + 1) m = bl k m := by rw [bl_succ, if_neg hb, List.append_nil]
      have := chosen_loop l hl m hm n (k + 1) (by omega) (by rw [e1]; exact hf)
      have hs : tollwayref24_chosen_L1_step l (m : Int) (((2 ^ k : Nat) : Int), k, up (bl k m)) = some (.inl (((2 ^ (k + 1) : Nat) : Int), k + 1, up (bl (k + 1) m))) := by
        unfold tollwayref24_chosen_L1_step
        refine ite_t (by omega) (guard_i (by omega) (guard_i (by rw [hdiv]; exact inr_small (Nat.le_trans hd2 (by omega))) (ite_f (by rw [bit_eq, if_neg hb]; decide) (guard_i (inR_i64.2 (by omega)) (guard_i (inR_i64.2 (by omega)) ?_)))))
        rw [e2, e1]
      rw [lp_go hs]
      exact this
theorem chosen_eq (l : List Tapi_Discount) (hl : l.length ≤ 12) (m : Nat) (hm : m < 2 ^ l.length) : (GoodC l.length (confR l) (bl l.length m) ∧ tollwayref24_chosen l (m : Int) = some (up (bl l.length m), true)) ∨ (¬ GoodC l.length (confR l) (bl l.length m) ∧ ∃ o, tollwayref24_chosen l (m : Int) = some (o, false)) := by
  unfold tollwayref24_chosen
  rcases chosen_loop l hl m hm l.length 0 (by omega) List.Pairwise.nil with ⟨h1, h2⟩ | ⟨h1, h2⟩
  · exact .inl ⟨⟨bl_asc _ _, fun i h => bl_mem h, h1⟩, bind_i h2 rfl⟩
  · exact .inr ⟨fun h => h1 h.free, _, bind_i h2 rfl⟩
theorem red_loop (l : List Tapi_Discount) (cents : Int) (c : List Nat) (hc : ∀ i ∈ c, i < l.length) (hlen : c.length ≤ 12) : ∀ n k : Nat, k + n = c.length →
    lp (tollwayref24_Reduction_L1_step l (up c) cents) (gsum (amtR l cents) (c.take k), k) = some (gsum (amtR l cents) c)
  | 0, k, hk => by
    have hk : k = c.length := by omega
    subst hk
    rw [lp_end (r := gsum (amtR l cents) (c.take c.length)) (by unfold tollwayref24_Reduction_L1_step; exact ite_f (by rw [up_len]; omega) rfl), List.take_length]
  | n + 1, k, hk => by
    have hlt : k < c.length := by omega
    have hx : (up c)[k]? = some (c[k] : Int) := by unfold up; rw [List.getElem?_map, List.getElem?_eq_getElem hlt]; rfl
    have hxl := hc c[k] (List.getElem_mem hlt)
    have gx := List.getElem?_eq_getElem hxl
    obtain ⟨-, ha, ha0, ha1, -⟩ := amtR_eq cents gx
    have hs0 := gsum_nn l cents (c.take k)
    have hs1 := gsum_le l cents (c.take k)
    have hs2 : (c.take k).length ≤ 12 := by rw [List.length_take]; omega
    have e : gsum (amtR l cents) (c.take k) + amtR l cents c[k] = gsum (amtR l cents) (c.take (k + 1)) := by
      rw [List.take_succ_eq_append_getElem hlt, gsum_app]; simp [gsum]
    rw [lp_go (s' := (gsum (amtR l cents) (c.take (k + 1)), k + 1)) (by
      unfold tollwayref24_Reduction_L1_step
      refine ite_t (by rw [up_len]; omega) (bind_i hx (guard_i (Int.natCast_nonneg _) (bind_i (by rw [Int.toNat_natCast]; exact gx) (bind_i ha (guard_i (inR_i64.2 (by omega)) (guard_i (inR_i64.2 (by omega)) ?_))))))
      rw [e])]
    exact red_loop l cents c hc hlen n (k + 1) (by omega)
theorem red_eq (l : List Tapi_Discount) (cents : Int) (c : List Nat) (hc : ∀ i ∈ c, i < l.length) (hlen : c.length ≤ 12) : tollwayref24_Reduction l (up c) cents = some (gval (amtR l cents) cents c) := by
  unfold tollwayref24_Reduction gval
  refine bind_i (red_loop l cents c hc hlen c.length 0 (by omega)) ?_
  split <;> rfl
theorem pow_loop (l : List Tapi_Discount) (cents : Int) (hl : l.length ≤ 12) : ∀ n k : Nat, k + n = l.length → lp (tollwayref24_Best_L6_step l cents) (((2 ^ k : Nat) : Int), k) = some ((2 ^ l.length : Nat) : Int)
  | 0, k, hk => by
    have hk : k = l.length := by omega
    subst hk
    exact lp_end (by unfold tollwayref24_Best_L6_step; exact ite_f (by omega) rfl)
  | n + 1, k, hk => by
    have hp : 2 ^ k ≤ 4096 := by have := Nat.pow_le_pow_right (n := 2) (by decide) (show k ≤ 12 by omega); simpa using this
    have hp0 : 0 < 2 ^ k := Nat.two_pow_pos _
    have e2 : ((2 ^ k : Nat) : Int) * 2 = ((2 ^ (k + 1) : Nat) : Int) := by rw [Nat.pow_succ]; omega
    rw [lp_go (s' := (((2 ^ (k + 1) : Nat) : Int), k + 1)) (by
      unfold tollwayref24_Best_L6_step
      refine ite_t (by omega) (guard_i (inR_i64.2 (by omega)) (guard_i (inR_i64.2 (by omega)) ?_))
      rw [e2])]
    exact pow_loop l cents hl n (k + 1) (by omega)
theorem rbest_loop (l : List Tapi_Discount) (cents : Int) (hl : l.length ≤ 12) : ∀ (n m : Nat) (d : List Nat), m + n = 2 ^ l.length → GoodC l.length (confR l) d →
    ∃ d', lp (tollwayref24_Best_L13_step l cents ((2 ^ l.length : Nat) : Int)) (up d, gval (amtR l cents) cents d, m) = some (up d', gval (amtR l cents) cents d') ∧ GoodC l.length (confR l) d' ∧ better (amtR l cents) cents d d' = false ∧
      ∀ q, m ≤ q → q < 2 ^ l.length → GoodC l.length (confR l) (bl l.length q) → better (amtR l cents) cents (bl l.length q) d' = false
  | 0, m, d, hm, hd => by
    refine ⟨d, lp_end (by unfold tollwayref24_Best_L13_step; exact ite_f (by omega) rfl), hd, better_irrefl d, fun q h1 h2 => by omega⟩
  | n + 1, m, d, hm, hd => by
    have hlt : m < 2 ^ l.length := by omega
    have hp : 2 ^ l.length ≤ 4096 := by have := Nat.pow_le_pow_right (n := 2) (by decide) hl; simpa using this
    have next : ∀ d0, GoodC l.length (confR l) d0 → better (amtR l cents) cents d d0 = false → (GoodC l.length (confR l) (bl l.length m) → better (amtR l cents) cents (bl l.length m) d0 = false) →
        tollwayref24_Best_L13_step l cents ((2 ^ l.length : Nat) : Int) (up d, gval (amtR l cents) cents d, m) = some (.inl (up d0, gval (amtR l cents) cents d0, m + 1)) →
        ∃ d', lp (tollwayref24_Best_L13_step l cents ((2 ^ l.length : Nat) : Int)) (up d, gval (amtR l cents) cents d, m) = some (up d', gval (amtR l cents) cents d') ∧ GoodC l.length (confR l) d' ∧ better (amtR l cents) cents d d' = false ∧
          ∀ q, m ≤ q → q < 2 ^ l.length → GoodC l.length (confR l) (bl l.length q) → better (amtR l cents) cents (bl l.length q) d' = false := by
      intro d0 h0 h1 h2 hs
      obtain ⟨d', k1, k2, k3, k4⟩ := rbest_loop l cents hl n (m + 1) d0 (by omega) h0
      refine ⟨d', by rw [lp_go hs]; exact k1, k2, nb_trans h1 k3, fun q hq hq2 hg => ?_⟩
      by_cases e : q = m
      · subst e; exact nb_trans (h2 hg) k3
      · exact k4 q (by omega) hq2 hg
    rcases chosen_eq l hl m hlt with ⟨hg, hch⟩ | ⟨hg, o, hch⟩
    · have hlen := bl_len l.length m
      have hred := red_eq l cents (bl l.length m) hg.lt (by omega)
      have inr : InR .i64 ((m : Int) + 1) := inR_i64.2 (by omega)
      by_cases g1 : gval (amtR l cents) cents (bl l.length m) > gval (amtR l cents) cents d
      · have hb : better (amtR l cents) cents (bl l.length m) d = true := by unfold better; simp [g1]
        refine next (bl l.length m) hg (b_nb hb) (fun _ => better_irrefl _) ?_
        unfold tollwayref24_Best_L13_step
        exact ite_t (by omega) (bind_i hch (ite_t rfl (bind_i hred (ite_t g1 (guard_i inr rfl)))))
      · by_cases g2 : gval (amtR l cents) cents (bl l.length m) = gval (amtR l cents) cents d
        · by_cases g3 : (bl l.length m).length < d.length
          · have hb : better (amtR l cents) cents (bl l.length m) d = true := by unfold better; simp [g2, g3]
            refine next (bl l.length m) hg (b_nb hb) (fun _ => better_irrefl _) ?_
            unfold tollwayref24_Best_L13_step
            exact ite_t (by omega) (bind_i hch (ite_t rfl (bind_i hred (ite_f g1 (ite_t g2 (ite_t (by dsimp only; rw [up_len, up_len]; omega) (guard_i inr rfl)))))))
          · by_cases g4 : (bl l.length m).length = d.length
            · have hbe := before_eq (bl l.length m) d g4 (by omega)
              cases hlx : lexlt (bl l.length m) d with
              | true =>
                have hb : better (amtR l cents) cents (bl l.length m) d = true := by unfold better; rw [hlx]; simp [g2, g4]
                refine next (bl l.length m) hg (b_nb hb) (fun _ => better_irrefl _) ?_
                unfold tollwayref24_Best_L13_step
                exact ite_t (by omega) (bind_i hch (ite_t rfl (bind_i hred (ite_f g1 (ite_t g2 (ite_f (by dsimp only; rw [up_len, up_len]; omega) (ite_t (by dsimp only; rw [up_len, up_len]; omega) (bind_i hbe (ite_t hlx (guard_i inr rfl))))))))))
              | false =>
                have hb : better (amtR l cents) cents (bl l.length m) d = false := by unfold better; rw [hlx]; simp [g2, g4]
                refine next d hd (better_irrefl _) (fun _ => hb) ?_
                unfold tollwayref24_Best_L13_step
                exact ite_t (by omega) (bind_i hch (ite_t rfl (bind_i hred (ite_f g1 (ite_t g2 (ite_f (by dsimp only; rw [up_len, up_len]; omega) (ite_t (by dsimp only; rw [up_len, up_len]; omega) (bind_i hbe (ite_f (by rw [hlx]; decide) (guard_i inr rfl))))))))))
            · have hb : better (amtR l cents) cents (bl l.length m) d = false := by unfold better; simp [g2, g3, g4]
              refine next d hd (better_irrefl _) (fun _ => hb) ?_
              unfold tollwayref24_Best_L13_step
              exact ite_t (by omega) (bind_i hch (ite_t rfl (bind_i hred (ite_f g1 (ite_t g2 (ite_f (by dsimp only; rw [up_len, up_len]; omega) (ite_f (by dsimp only; rw [up_len, up_len]; omega) (guard_i inr rfl))))))))
        · have hb : better (amtR l cents) cents (bl l.length m) d = false := by unfold better; simp [g1, g2]
          refine next d hd (better_irrefl _) (fun _ => hb) ?_
          unfold tollwayref24_Best_L13_step
          exact ite_t (by omega) (bind_i hch (ite_t rfl (bind_i hred (ite_f g1 (ite_f g2 (guard_i inr rfl))))))
    · refine next d hd (better_irrefl _) (fun h => absurd h hg) ?_
      unfold tollwayref24_Best_L13_step
      exact ite_t (by omega) (bind_i hch (ite_f (fun h => Bool.false_ne_true h) (guard_i (inR_i64.2 (by omega)) rfl)))
theorem rbest_eq (l : List Tapi_Discount) (cents : Int) (hk : tollwayref24_CheckAll l = some 0) (hc : 0 ≤ cents ∧ cents ≤ 1125899906842624) (hl : l.length ≤ 12) :
    ∃ d, isBest l.length (confR l) (amtR l cents) cents d ∧ tollwayref24_Best l cents = some (up d, gval (amtR l cents) cents d, 0) := by
  have hp : 0 < 2 ^ l.length := Nat.two_pow_pos _
  obtain ⟨d, h1, h2, h3, h4⟩ := rbest_loop l cents hl (2 ^ l.length - 1) 1 [] (by omega) GoodC.nil
  rw [gval_nil l cents hc.1] at h1
  refine ⟨d, ⟨h2, fun c hcg => ?_⟩, ?_⟩
  · obtain ⟨m, hm, hb⟩ := bl_all l.length c hcg.asc hcg.lt
    by_cases e : m = 0
    · subst e
      rw [bl_zero] at hb
      subst hb
      exact h3
    · have := h4 m (by omega) hm (by rw [hb]; exact hcg)
      rwa [hb] at this
  · unfold tollwayref24_Best
    exact bind_i hk (ite_t rfl (ite_f (by omega) (ite_f (by omega) (bind_i (pow_loop l cents hl l.length 0 (by omega)) (bind_i h1 rfl)))))
/-- both, in every case -/
theorem both_eq (l : List Tapi_Discount) (cents : Int) : (∃ d, discount_CheckAll l = some 0 ∧ l.length ≤ 12 ∧ (0 ≤ cents ∧ cents ≤ 1125899906842624) ∧ isBest l.length (confR l) (amtR l cents) cents d ∧ discount_Best l cents = some (up d, gval (amtR l cents) cents d, 0) ∧ tollwayref24_Best l cents = some (up d, gval (amtR l cents) cents d, 0)) ∨
    (∃ e, e ≠ 0 ∧ discount_Best l cents = some ([], 0, e) ∧ tollwayref24_Best l cents = some ([], 0, e) ∧ (discount_CheckAll l = some e ∨ discount_CheckAll l = some 0 ∧ (cents < 0 ∨ cents > 1125899906842624) ∧ e = 13)) := by
  obtain ⟨c, h1, h2, h3⟩ := checkAll_eq l
  by_cases hc : c = 0
  · subst hc
    by_cases h4 : cents < 0
    · refine .inr ⟨13, by decide, ?_, ?_, .inr ⟨h1, .inl h4, rfl⟩⟩
      · unfold discount_Best; exact bind_i h1 (ite_t rfl (ite_t h4 rfl))
      · unfold tollwayref24_Best; exact bind_i h2 (ite_t rfl (ite_t h4 rfl))
    · by_cases h5 : cents > 1125899906842624
      · refine .inr ⟨13, by decide, ?_, ?_, .inr ⟨h1, .inr h5, rfl⟩⟩
        · unfold discount_Best; exact bind_i h1 (ite_t rfl (ite_f h4 (ite_t h5 rfl)))
        · unfold tollwayref24_Best; exact bind_i h2 (ite_t rfl (ite_f h4 (ite_t h5 rfl)))
      · have hb : 0 ≤ cents ∧ cents ≤ 1125899906842624 := by omega
        obtain ⟨d, k1, k2⟩ := best_eq l cents h1 hb (h3 rfl)
        obtain ⟨d', k3, k4⟩ := rbest_eq l cents h2 hb (h3 rfl)
        obtain rfl := isBest_eq k1 k3
        exact .inl ⟨d, h1, h3 rfl, hb, k1, k2, k4⟩
  · refine .inr ⟨c, hc, ?_, ?_, .inl h1⟩
    · unfold discount_Best; exact bind_i h1 (ite_f hc rfl)
    · unfold tollwayref24_Best; exact bind_i h2 (ite_f hc rfl)
end Go.Proofs.Ytabjlmlfmafllaa.Av
