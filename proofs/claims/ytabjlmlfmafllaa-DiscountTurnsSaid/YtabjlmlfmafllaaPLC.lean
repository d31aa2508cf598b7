/- Discounts: when a list of discounts is valid; combinations of other lists. -/
import Derived.Test.YtabjlmlfmafllaaPDs3
set_option linter.unusedVariables false
set_option linter.unusedSimpArgs false
set_option maxHeartbeats 1000000
namespace Go.Proofs.Ytabjlmlfmafllaa.Av
open Go Go.Proofs
theorem dup_eq (l : List Tapi_Discount) (hl : l.length ≤ 12) (k : Nat) (x : Tapi_Discount) (hk : k ≤ l.length) :
    lp (discount_CheckAll_L31_step l k x) 0 = some (match fidx (fun y : Tapi_Discount => decide (y.Name = x.Name)) (l.take k) 0 with | some i => .inl (i : Int) | none => .inr ()) := by
  have hlen : (l.take k).length ≤ 12 := by rw [List.length_take]; omega
  refine lp_find0 (l := l.take k) (step := discount_CheckAll_L31_step l k x) (fun y => decide (y.Name = x.Name)) (fun i => (i : Int)) (fun i y hy hi => ?_) ?_
  · unfold discount_CheckAll_L31_step
    refine ite_t (by omega) (bind_i hy ?_)
    by_cases h : y.Name = x.Name
    · rw [decide_eq_true h]; exact ite_t h rfl
    · rw [decide_eq_false h]; exact ite_f h (guard_i (inR_i64.2 (by omega)) rfl)
  · unfold discount_CheckAll_L31_step; exact ite_f (by omega) rfl
def okFrom (l : List Tapi_Discount) (k : Nat) : Prop := ∀ j, k ≤ j → (h : j < l.length) → discount_Check l[j] = some 0 ∧ ∀ i (hi : i < j), l[i].Name ≠ l[j].Name
theorem checkAll_loop (l : List Tapi_Discount) (hl : l.length ≤ 12) : ∀ n k : Nat, k + n = l.length → ∃ q, lp (discount_CheckAll_L2_step l) k = some q ∧ ((∃ u, q = .inr u ∧ okFrom l k) ∨ (∃ c, q = .inl c ∧ c ≠ 0 ∧ ¬ okFrom l k))
  | 0, k, hk => by
    have hk : k = l.length := by omega
    subst hk
    exact ⟨_, lp_end (by unfold discount_CheckAll_L2_step; exact ite_f (by omega) rfl), .inl ⟨(), rfl, fun j h1 h2 => by omega⟩⟩
  | n + 1, k, hk => by
    have hlt : k < l.length := by omega
    have gk := List.getElem?_eq_getElem hlt
    obtain ⟨c, hc, -⟩ := check_tot l[k]
    by_cases h0 : c = 0
    · subst h0
      have hd := dup_eq l hl k l[k] (by omega)
      have hany := fidx_any (p := fun y : Tapi_Discount => decide (y.Name = l[k].Name)) (l.take k) 0
      cases hf : fidx (fun y : Tapi_Discount => decide (y.Name = l[k].Name)) (l.take k) 0 with
      | some i =>
        rw [hf] at hd hany
        refine ⟨.inl 9, lp_end ?_, .inr ⟨9, rfl, by decide, fun hok => ?_⟩⟩
        · unfold discount_CheckAll_L2_step
          exact ite_t (by omega) (bind_i gk (bind_i hc (ite_t rfl (guard_i (by omega) (bind_i hd (ite_t (Int.natCast_nonneg _) rfl))))))
        · have h5 : (l.take k).any (fun y : Tapi_Discount => decide (y.Name = l[k].Name)) = true := hany.symm
          rw [List.any_eq_true] at h5
          obtain ⟨y, hy, hyn⟩ := h5
          obtain ⟨j, hj, rfl⟩ := List.getElem_of_mem hy
          rw [List.length_take] at hj
          have := (hok k (Nat.le_refl _) hlt).2 j (by omega)
          rw [List.getElem_take] at hyn
          exact this (of_decide_eq_true hyn)
      | none =>
        rw [hf] at hd hany
        obtain ⟨q, h1, h2⟩ := checkAll_loop l hl n (k + 1) (by omega)
        refine ⟨q, ?_, ?_⟩
        · rw [lp_go (s' := k + 1) (by
            unfold discount_CheckAll_L2_step
            exact ite_t (by omega) (bind_i gk (bind_i hc (ite_t rfl (guard_i (by omega) (bind_i hd (guard_i (inR_i64.2 (by omega)) rfl))))))), h1]
        · have hk2 : okFrom l (k + 1) ↔ okFrom l k := by
            refine ⟨fun h j h1 h2 => ?_, fun h j h1 h2 => h j (by omega) h2⟩
            by_cases e : j = k
            · subst e
              refine ⟨hc, fun i hi he => ?_⟩
              have h5 : (l.take j).any (fun y : Tapi_Discount => decide (y.Name = l[j].Name)) = false := hany.symm
              rw [List.any_eq_false] at h5
              have hm : l[i] ∈ l.take j := by
                rw [List.mem_take_iff_getElem]
                exact ⟨i, by omega, rfl⟩
              exact h5 _ hm (decide_eq_true he)
            · exact h j (by omega) h2
          rwa [hk2] at h2
    · refine ⟨.inl c, lp_end ?_, .inr ⟨c, rfl, h0, fun hok => ?_⟩⟩
      · unfold discount_CheckAll_L2_step
        exact ite_t (by omega) (bind_i gk (bind_i hc (ite_f h0 rfl)))
      · have := (hok k (Nat.le_refl _) hlt).1
        rw [hc] at this
        exact h0 (Option.some.inj this)
theorem checkAll_iff (l : List Tapi_Discount) : discount_CheckAll l = some 0 ↔ l.length ≤ 12 ∧ (∀ x ∈ l, discount_Check x = some 0) ∧ l.Pairwise (fun x y => x.Name ≠ y.Name) := by
  have hp : okFrom l 0 ↔ (∀ x ∈ l, discount_Check x = some 0) ∧ l.Pairwise (fun x y => x.Name ≠ y.Name) := by
    rw [List.pairwise_iff_getElem]
    constructor
    · intro h
      refine ⟨fun x hx => ?_, fun i j hi hj hij => (h j (Nat.zero_le _) hj).2 i hij⟩
      obtain ⟨j, hj, rfl⟩ := List.getElem_of_mem hx
      exact (h j (Nat.zero_le _) hj).1
    · rintro ⟨h1, h2⟩ j - hj
      exact ⟨h1 _ (List.getElem_mem hj), fun i hi => h2 i j (by omega) hj hi⟩
  by_cases hl : l.length ≤ 12
  · obtain ⟨q, h1, h2⟩ := checkAll_loop l hl l.length 0 (by omega)
    have hu : discount_CheckAll l = (match q with | .inl o => some o | .inr _ => some 0) := by
      unfold discount_CheckAll
      refine ite_f (by omega) (bind_i h1 ?_)
      cases q <;> rfl
    rw [hu, ← hp]
    rcases h2 with ⟨u, rfl, hok⟩ | ⟨c, rfl, hc, hno⟩
    · exact ⟨fun _ => ⟨hl, hok⟩, fun _ => rfl⟩
    · exact ⟨fun h => absurd (Option.some.inj h) hc, fun h => absurd h.2 hno⟩
  · have hu : discount_CheckAll l = some 3 := by unfold discount_CheckAll; exact ite_t (by omega) rfl
    rw [hu]
    exact ⟨fun h => (by cases h), fun h => absurd h.1 hl⟩
/-- Best of a valid list -/
theorem best_ok {l : List Tapi_Discount} {cents : Int} (hk : discount_CheckAll l = some 0) (hc : 0 ≤ cents ∧ cents ≤ 1125899906842624) : ∃ d, l.length ≤ 12 ∧ isBest l.length (confR l) (amtR l cents) cents d ∧ discount_Best l cents = some (up d, gval (amtR l cents) cents d, 0) := by
  rcases both_eq l cents with ⟨d, -, hl, -, hb, h1, -⟩ | ⟨e, he, -, -, h | ⟨-, h, -⟩⟩
  · exact ⟨d, hl, hb, h1⟩
  · rw [hk] at h; exact absurd (Option.some.inj h).symm he
  · omega
/-! ### other lists -/
theorem grp_at {l l' : List Tapi_Discount} {i j : Nat} (h : l'[j]? = l[i]?) : grpR l' j = grpR l i := by unfold grpR; rw [h]
theorem amt_at {l l' : List Tapi_Discount} {cents : Int} {i j : Nat} (h : l'[j]? = l[i]?) : amtR l' cents j = amtR l cents i := by unfold amtR; rw [h]
theorem conf_at {l l' : List Tapi_Discount} {i j p q : Nat} (h : l'[j]? = l[i]?) (k : l'[q]? = l[p]?) : confR l' j q = confR l i p := by unfold confR; rw [grp_at h, grp_at k]
theorem conf_comm (l : List Tapi_Discount) (i j : Nat) : confR l i j = confR l j i := by
  unfold confR
  by_cases h : grpR l i = grpR l j
  · rw [h]
  · have h2 : ¬ grpR l j = grpR l i := fun e => h e.symm
    simp [h, h2]
theorem gsum_map {l l' : List Tapi_Discount} {cents : Int} (φ : Nat → Nat) : ∀ {c : List Nat}, (∀ i ∈ c, l'[φ i]? = l[i]?) → gsum (amtR l' cents) (c.map φ) = gsum (amtR l cents) c
  | [], _ => rfl
  | x :: c, h => by
    simp only [List.map_cons, gsum]
    rw [amt_at (h x (by simp)), gsum_map φ (fun i hi => h i (by simp [hi]))]
theorem transport {l l' : List Tapi_Discount} (φ : Nat → Nat) {c : List Nat} (hg : GoodC l.length (confR l) c) (hφ : ∀ i ∈ c, φ i < l'.length ∧ l'[φ i]? = l[i]?) (hm : ∀ i ∈ c, ∀ j ∈ c, i < j → φ i < φ j) : GoodC l'.length (confR l') (c.map φ) := by
  refine ⟨?_, fun x hx => ?_, ?_⟩
  · rw [List.pairwise_map]
    exact hg.asc.imp_of_mem fun ha hb h => hm _ ha _ hb h
  · obtain ⟨i, hi, rfl⟩ := List.mem_map.1 hx
    exact (hφ i hi).1
  · rw [List.pairwise_map]
    exact hg.free.imp_of_mem fun ha hb h => (conf_at (hφ _ ha).2 (hφ _ hb).2).trans h
theorem gval_of {l l' : List Tapi_Discount} {cents : Int} {c c' : List Nat} (h : gsum (amtR l' cents) c' = gsum (amtR l cents) c) : gval (amtR l' cents) cents c' = gval (amtR l cents) cents c := by unfold gval; rw [h]
/-- the sum over those of a list without repetition -/
theorem gsum_filter {f : Nat → Int} (x : Nat) (m : List Nat) (hx : x ∉ m) : ∀ N : Nat, gsum f ((List.range N).filter fun i => decide (i ∈ x :: m)) = (if x < N then f x else 0) + gsum f ((List.range N).filter fun i => decide (i ∈ m))
  | 0 => by simp [gsum]
  | N + 1 => by
    have ih := gsum_filter (f := f) x m hx N
    rw [List.range_succ, List.filter_append, List.filter_append, gsum_app, gsum_app, ih]
    by_cases e : N = x
    · subst e
      rw [if_neg (by omega), if_pos (by omega)]
      simp [hx, gsum]
      omega
    · have h2 : (N ∈ x :: m) ↔ N ∈ m := by simp [e]
      have h3 : (List.filter (fun i => decide (i ∈ x :: m)) [N]) = (List.filter (fun i => decide (i ∈ m)) [N]) := by
        simp only [List.filter_cons, List.filter_nil, h2]
      rw [h3]
      by_cases h : x < N
      · rw [if_pos h, if_pos (by omega)]; omega
      · rw [if_neg h, if_neg (by omega)]; omega
theorem gsum_set {f : Nat → Int} (N : Nat) : ∀ m : List Nat, m.Nodup → (∀ i ∈ m, i < N) → gsum f ((List.range N).filter fun i => decide (i ∈ m)) = gsum f m
  | [], _, _ => by
    have : ((List.range N).filter fun i => decide (i ∈ ([] : List Nat))) = [] := by rw [List.filter_eq_nil_iff]; intro i _; simp
    rw [this]
  | x :: m, hn, hl => by
    rw [List.nodup_cons] at hn
    rw [gsum_filter x m hn.1, if_pos (hl x (by simp)), gsum_set N m hn.2 (fun i hi => hl i (by simp [hi]))]
    rfl
theorem transport2 {l l' : List Tapi_Discount} {cents : Int} (φ : Nat → Nat) {c : List Nat} (hg : GoodC l.length (confR l) c) (hφ : ∀ i, i < l.length → φ i < l'.length ∧ l'[φ i]? = l[i]?) (hi : ∀ i j, i < l.length → j < l.length → φ i = φ j → i = j) :
    ∃ c', GoodC l'.length (confR l') c' ∧ gsum (amtR l' cents) c' = gsum (amtR l cents) c := by
  have hnd : (c.map φ).Nodup := by
    unfold List.Nodup
    rw [List.pairwise_map]
    exact hg.asc.imp_of_mem fun ha hb h e => by have := hi _ _ (hg.lt _ ha) (hg.lt _ hb) e; omega
  have hlt : ∀ x ∈ c.map φ, x < l'.length := fun x hx => by
    obtain ⟨i, hi, rfl⟩ := List.mem_map.1 hx
    exact (hφ i (hg.lt i hi)).1
  have free : ∀ a ∈ c, ∀ b ∈ c, a ≠ b → confR l a b = false := by
    have := hg.free
    rw [List.pairwise_iff_getElem] at this
    intro a ha b hb hne
    obtain ⟨i, hi, rfl⟩ := List.getElem_of_mem ha
    obtain ⟨j, hj, rfl⟩ := List.getElem_of_mem hb
    rcases Nat.lt_trichotomy i j with h | h | h
    · exact this i j hi hj h
    · subst h; exact absurd rfl hne
    · rw [conf_comm]; exact this j i hj hi h
  refine ⟨(List.range l'.length).filter fun i => decide (i ∈ c.map φ), ⟨?_, fun i hi => ?_, ?_⟩, ?_⟩
  · exact (List.pairwise_lt_range).filter _
  · rw [List.mem_filter, List.mem_range] at hi; exact hi.1
  · refine ((List.pairwise_lt_range (n := l'.length)).filter _).imp_of_mem fun {a b} ha hb h => ?_
    rw [List.mem_filter] at ha hb
    obtain ⟨i, hi1, rfl⟩ := List.mem_map.1 (of_decide_eq_true ha.2)
    obtain ⟨j, hj1, rfl⟩ := List.mem_map.1 (of_decide_eq_true hb.2)
    rw [conf_at (hφ i (hg.lt i hi1)).2 (hφ j (hg.lt j hj1)).2]
    exact free i hi1 j hj1 (fun e => by subst e; omega)
  · rw [gsum_set _ _ hnd hlt]
    exact gsum_map φ fun i hi => (hφ i (hg.lt i hi)).2
theorem tmod_nat {n : Int} {m : Nat} (hn : 0 ≤ n) (hm : 0 < m) : ∃ k : Nat, k < m ∧ Int.tmod n (m : Int) = (k : Int) := by
  obtain ⟨a, rfl⟩ := Int.eq_ofNat_of_zero_le hn
  exact ⟨a % m, Nat.mod_lt _ hm, rfl⟩
end Go.Proofs.Ytabjlmlfmafllaa.Av
