/- Discounts: what the function that adds discounts comes to. -/
import Derived.Test.YtabjlmlfmafllaaPDs1
import Derived.Test.YtabjlmlfmafllaaP24L
import Derived.Test.YtabjlmlfmafllaaK1
set_option linter.unusedVariables false
set_option linter.unusedSimpArgs false
set_option maxHeartbeats 1000000
namespace Go.Proofs.Ytabjlmlfmafllaa.Av
open Go Go.Proofs
/-! ### the first element that fits -/
def fidx {α : Type} (p : α → Bool) : List α → Nat → Option Nat
  | [], _ => none
  | x :: l, k => if p x = true then some k else fidx p l (k + 1)
theorem fidx_any {α : Type} {p : α → Bool} : ∀ (l : List α) (k : Nat), (fidx p l k).isSome = l.any p
  | [], k => rfl
  | x :: l, k => by
    unfold fidx
    by_cases hp : p x = true
    · simp [hp]
    · rw [if_neg hp, fidx_any l]; simp [hp]
theorem lp_find {α ρ : Type} {l : List α} {step : Nat → Option (Nat ⊕ (ρ ⊕ Unit))} (p : α → Bool) (f : Nat → ρ)
    (hs : ∀ k x, l[k]? = some x → k < l.length → step k = some (if p x = true then .inr (.inl (f k)) else .inl (k + 1)))
    (he : step l.length = some (.inr (.inr ()))) : ∀ m k, k + m = l.length → lp step k = some (match fidx p (l.drop k) k with | some i => .inl (f i) | none => .inr ())
  | 0, k, hk => by
    have hk : k = l.length := by omega
    subst hk
    rw [lp_end he, List.drop_length]; rfl
  | m + 1, k, hk => by
    have hlt : k < l.length := by omega
    have h1 := hs k l[k] (List.getElem?_eq_getElem hlt) hlt
    rw [List.drop_eq_getElem_cons hlt]
    unfold fidx
    by_cases hp : p l[k] = true
    · rw [if_pos hp] at h1 ⊢
      exact lp_end h1
    · rw [if_neg hp] at h1 ⊢
      rw [lp_go h1]
      exact lp_find p f hs he m (k + 1) (by omega)
theorem lp_find0 {α ρ : Type} {l : List α} {step : Nat → Option (Nat ⊕ (ρ ⊕ Unit))} (p : α → Bool) (f : Nat → ρ)
    (hs : ∀ k x, l[k]? = some x → k < l.length → step k = some (if p x = true then .inr (.inl (f k)) else .inl (k + 1)))
    (he : step l.length = some (.inr (.inr ()))) : lp step 0 = some (match fidx p l 0 with | some i => .inl (f i) | none => .inr ()) := by
  have := lp_find p f hs he l.length 0 (by omega)
  simpa using this
/-! ### groups and amounts of a list -/
def grpR (l : List Tapi_Discount) (i : Nat) : List UInt8 := match l[i]? with | some x => x.Group | none => []
noncomputable def amtR (l : List Tapi_Discount) (cents : Int) (i : Nat) : Int := match l[i]? with | some x => (discount_Amount x cents).getD 0 | none => 0
def confR (l : List Tapi_Discount) (i j : Nat) : Bool := !(decide (grpR l i = [])) && decide (grpR l i = grpR l j)
def up (c : List Nat) : List Int := c.map fun (i : Nat) => (i : Int)
theorem up_len (c : List Nat) : (up c).length = c.length := by simp [up]
theorem up_app (a b : List Nat) : up (a ++ b) = up a ++ up b := by simp [up]
theorem up_get {c : List Nat} {k : Nat} {y : Int} (h : (up c)[k]? = some y) : ∃ x, c[k]? = some x ∧ y = (x : Int) := by
  unfold up at h
  rw [List.getElem?_map] at h
  cases hc : c[k]? with
  | none => rw [hc] at h; cases h
  | some x => rw [hc] at h; exact ⟨x, rfl, (Option.some.inj h).symm⟩
theorem up_inj {a b : List Nat} (h : up a = up b) : a = b := by
  unfold up at h
  exact List.map_inj_right (f := fun i : Nat => (i : Int)) (fun x y h => by omega) |>.1 h
theorem amtR_eq {l : List Tapi_Discount} {i : Nat} {x : Tapi_Discount} (cents : Int) (h : l[i]? = some x) : discount_Amount x cents = some (amtR l cents i) ∧ tollwayref24_Amount x cents = some (amtR l cents i) ∧ 0 ≤ amtR l cents i ∧ amtR l cents i ≤ 1125899906842624 ∧ (0 ≤ cents → amtR l cents i ≤ cents) := by
  obtain ⟨r, h1, h2, h3, h4, h5⟩ := amount_eq x cents
  have e : amtR l cents i = r := by unfold amtR; rw [h]; simp only [h1]; rfl
  rw [e]
  exact ⟨h1, h2, h3, h4, fun hc => by rcases h5 hc with h | h <;> omega⟩
theorem amtR_nn (l : List Tapi_Discount) (cents : Int) (i : Nat) : 0 ≤ amtR l cents i := by
  cases h : l[i]? with
  | some x => exact (amtR_eq cents h).2.2.1
  | none => unfold amtR; rw [h]; exact Int.le_refl 0
theorem amtR_le (l : List Tapi_Discount) (cents : Int) (i : Nat) : amtR l cents i ≤ 1125899906842624 := by
  cases h : l[i]? with
  | some x => exact (amtR_eq cents h).2.2.2.1
  | none => unfold amtR; rw [h]; exact (by decide : (0 : Int) ≤ 1125899906842624)
theorem gsum_nn (l : List Tapi_Discount) (cents : Int) : ∀ c : List Nat, 0 ≤ gsum (amtR l cents) c
  | [] => Int.le_refl 0
  | i :: c => by have := gsum_nn l cents c; have := amtR_nn l cents i; unfold gsum; omega
theorem gsum_le (l : List Tapi_Discount) (cents : Int) : ∀ c : List Nat, gsum (amtR l cents) c ≤ 1125899906842624 * c.length
  | [] => by simp [gsum]
  | i :: c => by have := gsum_le l cents c; have := amtR_le l cents i; unfold gsum; rw [List.length_cons]; omega
theorem asc_len : ∀ {c : List Nat} {N : Nat}, c.Pairwise (· < ·) → (∀ i ∈ c, i < N) → c.length ≤ N
  | [], N, _, _ => Nat.zero_le _
  | x :: c, N, h, hl => by
    obtain ⟨m, -, hm⟩ := bl_all N (x :: c) h hl
    rw [← hm]; exact bl_len N m
theorem lexlt_cmp : ∀ (a b : List Nat), a.length = b.length → a.length ≤ 4294967296 → ∀ k : Nat, k ≤ a.length →
    ∃ r : Int, (match lp (slices_Compare_L1_step (up a) (up b)) k with | some (.inl o) => some o | some (.inr _) => some (0 : Int) | none => none) = some r ∧ (decide (r < 0) = lexlt (a.drop k) (b.drop k)) := by
  intro a b hl hbig k
  generalize hm : a.length - k = m
  induction m generalizing k with
  | zero =>
    intro hk
    have hk : k = a.length := by omega
    subst hk
    refine ⟨0, ?_, ?_⟩
    · rw [lp_end (r := .inr ()) (by unfold slices_Compare_L1_step; exact ite_f (by rw [up_len]; omega) rfl)]
    · rw [List.drop_length, hl, List.drop_length]; rfl
  | succ m ih =>
    intro hk
    have h1 : k < a.length := by omega
    have h2 : k < b.length := by omega
    have ha : (up a)[k]? = some (a[k] : Int) := by unfold up; rw [List.getElem?_map, List.getElem?_eq_getElem h1]; rfl
    have hb : (up b)[k]? = some (b[k] : Int) := by unfold up; rw [List.getElem?_map, List.getElem?_eq_getElem h2]; rfl
    rw [List.drop_eq_getElem_cons h1, List.drop_eq_getElem_cons h2]
    have hstep : ∀ r, cmp_Compare (a[k] : Int) (b[k] : Int) = some r → slices_Compare_L1_step (up a) (up b) k = (if r = 0 then some (.inl (k + 1)) else some (.inr (.inl r))) := fun r hr => by
      unfold slices_Compare_L1_step
      refine ite_t (by rw [up_len]; omega) (bind_i ha (ite_f (by rw [up_len]; omega) (bind_i hb (bind_i hr ?_))))
      split
      · exact guard_i (inR_i64.2 (by omega)) rfl
      · rfl
    unfold lexlt
    by_cases e : a[k] = b[k]
    · have hr : cmp_Compare (a[k] : Int) (b[k] : Int) = some 0 := by unfold cmp_Compare; exact ite_t rfl (ite_t rfl (ite_f (by omega) (ite_f (by omega) rfl)))
      have := hstep 0 hr
      rw [if_pos rfl] at this
      rw [lp_go this, if_pos e]
      exact ih (k + 1) (by omega) (by omega)
    · by_cases e2 : a[k] < b[k]
      · have hr : cmp_Compare (a[k] : Int) (b[k] : Int) = some (-1) := by unfold cmp_Compare; exact ite_t rfl (ite_t rfl (ite_t (by omega) rfl))
        have := hstep (-1) hr
        rw [if_neg (by decide)] at this
        rw [lp_end this, if_neg e]
        exact ⟨-1, rfl, by simp [e2]⟩
      · have hr : cmp_Compare (a[k] : Int) (b[k] : Int) = some 1 := by unfold cmp_Compare; exact ite_t rfl (ite_t rfl (ite_f (by omega) (ite_t (by omega) rfl)))
        have := hstep 1 hr
        rw [if_neg (by decide)] at this
        rw [lp_end this, if_neg e]
        exact ⟨1, rfl, by simp [e2]⟩
theorem compare_eq (a b : List Nat) (hl : a.length = b.length) (hbig : a.length ≤ 4294967296) : ∃ r : Int, slices_Compare (up a) (up b) = some r ∧ decide (r < 0) = lexlt a b := by
  obtain ⟨r, h1, h2⟩ := lexlt_cmp a b hl hbig 0 (Nat.zero_le _)
  rw [List.drop_zero, List.drop_zero] at h2
  refine ⟨r, ?_, h2⟩
  unfold slices_Compare
  cases h : lp (slices_Compare_L1_step (up a) (up b)) 0 with
  | none => rw [h] at h1; cases h1
  | some q =>
    rw [h] at h1
    cases q with
    | inl o => exact h1
    | inr o =>
      simp only [Option.some.injEq] at h1
      subst h1
      rw [Option.bind_some]
      exact ite_f (by rw [up_len, up_len]; omega) rfl
/-! ### is a discount barred? -/
theorem barred_eq (l : List Tapi_Discount) (now : List Nat) (i : Nat) (hn : ∀ x ∈ now, x < l.length) (hi : i < l.length) (hlen : now.length ≤ 4294967296) :
    lp (discount_Best_L2254_step l (up now) (i : Int)) 0 = some (match fidx (fun x => confR l x i) now 0 with | some k => .inl (k : Int) | none => .inr ()) := by
  refine lp_find0 (l := now) (step := discount_Best_L2254_step l (up now) (i : Int)) (fun x => confR l x i) (fun k => (k : Int)) (fun k x hx hk => ?_) ?_
  · have hxl := hn x (List.mem_of_getElem? hx)
    have gx := List.getElem?_eq_getElem hxl
    have gi := List.getElem?_eq_getElem hi
    have hux : (up now)[k]? = some (x : Int) := by unfold up; rw [List.getElem?_map, hx]; rfl
    have e1 : grpR l x = l[x].Group := by unfold grpR; rw [gx]
    have e2 : grpR l i = l[i].Group := by unfold grpR; rw [gi]
    unfold discount_Best_L2254_step confR
    rw [e1, e2]
    refine ite_t (by rw [up_len]; omega) (bind_i hux (guard_i (Int.natCast_nonneg _) (bind_i (by rw [Int.toNat_natCast]; exact gx) ?_)))
    by_cases h0 : l[x].Group = []
    · refine ite_t h0 (guard_i (inR_i64.2 (by omega)) ?_); simp [h0]
    · refine ite_f h0 (guard_i (Int.natCast_nonneg _) (bind_i (by rw [Int.toNat_natCast]; exact gi) ?_))
      by_cases h1 : l[x].Group = l[i].Group
      · refine ite_t h1 ?_; rw [if_pos (by simp only [Bool.and_eq_true, Bool.not_eq_true', decide_eq_true_eq, decide_eq_false_iff_not]; exact ⟨h0, h1⟩)]
      · refine ite_f h1 (guard_i (inR_i64.2 (by omega)) ?_); simp [h1]
  · unfold discount_Best_L2254_step
    exact ite_f (by rw [up_len]; omega) rfl
theorem clone_eq (c : List Nat) (h : c.length ≤ 4294967296) : slices_Clone_23 (up c) = some (up c) := by
  unfold slices_Clone_23
  rw [if_pos (by rw [up_len]; exact h)]
theorem min_val (l : List Tapi_Discount) (cents : Int) (c : List Nat) : (if cents < gsum (amtR l cents) c then cents else gsum (amtR l cents) c) = gval (amtR l cents) cents c := rfl
/-- what a call of the function comes to, for the calls within it -/
def AddOk (l : List Tapi_Discount) (cents : Int) (rec : Int → Int → Int → List Int → List Int → Option (Int × List Int × List Int)) (i : Nat) : Prop :=
  ∀ now d : List Nat, GoodC l.length (confR l) now → (∀ x ∈ now, x < i) → GoodC l.length (confR l) d →
    ∃ d', rec (i : Int) (gsum (amtR l cents) now) (gval (amtR l cents) cents d) (up now) (up d) = some (gval (amtR l cents) cents d', up now, up d') ∧ GoodC l.length (confR l) d' ∧ better (amtR l cents) cents d d' = false ∧
      ∀ c, GoodC l.length (confR l) c → (∃ e, c = now ++ e ∧ ∀ x ∈ e, i ≤ x) → better (amtR l cents) cents c d' = false
theorem add_loop (l : List Tapi_Discount) (cents : Int) (hl : l.length ≤ 12) (hc : 0 ≤ cents ∧ cents ≤ 1125899906842624) (rec : Int → Int → Int → List Int → List Int → Option (Int × List Int × List Int)) (now : List Nat) (ub : List Int)
    (hn : GoodC l.length (confR l) now) : ∀ (m i : Nat) (d : List Nat), i + m = l.length → (∀ x ∈ now, x < i) → GoodC l.length (confR l) d → (∀ j, i ≤ j → j < l.length → AddOk l cents rec (j + 1)) →
    ∃ d', lp (discount_Best_L2136_step l cents (gsum (amtR l cents) now) ub rec) (gval (amtR l cents) cents d, (i : Int), up now, up d) = some (gval (amtR l cents) cents d', up now, up d') ∧ GoodC l.length (confR l) d' ∧ better (amtR l cents) cents d d' = false ∧
      ∀ c, GoodC l.length (confR l) c → (∃ j e, i ≤ j ∧ c = now ++ j :: e) → better (amtR l cents) cents c d' = false
  | 0, i, d, hi, hx, hd, _ => by
    refine ⟨d, lp_end (by unfold discount_Best_L2136_step; exact ite_f (by omega) rfl), hd, better_irrefl d, ?_⟩
    rintro c hcg ⟨j, e, hj, rfl⟩
    have := hcg.lt j (by simp)
    omega
  | m + 1, i, d, hi, hx, hd, hrec => by
    have hlt : i < l.length := by omega
    have hnl := asc_len hn.asc hn.lt
    have gi := List.getElem?_eq_getElem hlt
    have hbar := barred_eq l now i hn.lt hlt (by omega)
    obtain ⟨ha, -, ha0, ha1, -⟩ := amtR_eq cents gi
    have hs0 := gsum_nn l cents now
    have hs1 := gsum_le l cents now
    have hany := fidx_any (p := fun x => confR l x i) now 0
    cases hf : fidx (fun x => confR l x i) now 0 with
    | some k =>
      rw [hf] at hbar hany
      obtain ⟨d', h1, h2, h3, h4⟩ := add_loop l cents hl hc rec now ub hn m (i + 1) d (by omega) (fun x h => by have := hx x h; omega) hd (fun j hj => hrec j (by omega))
      refine ⟨d', ?_, h2, h3, ?_⟩
      · rw [lp_go (s' := (gval (amtR l cents) cents d, ((i + 1 : Nat) : Int), up now, up d)) (by
          unfold discount_Best_L2136_step
          exact ite_t (by omega) (bind_i hbar (ite_t (Int.natCast_nonneg _) (guard_i (inR_i64.2 (by omega)) rfl))))]
        exact h1
      · rintro c hcg ⟨j, e, hj, rfl⟩
        by_cases hji : j = i
        · subst hji
          exfalso
          have h5 : (now.any fun x => confR l x j) = true := hany.symm
          rw [List.any_eq_true] at h5
          obtain ⟨x, hxm, hxc⟩ := h5
          have := hcg.free
          rw [List.pairwise_append] at this
          have := this.2.2 x hxm j (by simp)
          rw [this] at hxc; cases hxc
        · exact h4 _ hcg ⟨j, e, by omega, rfl⟩
    | none =>
      rw [hf] at hbar hany
      have hfree : ∀ x ∈ now, confR l x i = false := fun x hxm => by
        have h5 : (now.any fun x => confR l x i) = false := hany.symm
        rw [List.any_eq_false] at h5
        simpa using h5 x hxm
      have hn2 := hn.snoc hlt hx hfree
      obtain ⟨d1, k1, k2, k3, k4⟩ := hrec i (Nat.le_refl _) hlt (now ++ [i]) d hn2 (fun x h => by
        rw [List.mem_append] at h
        rcases h with h | h
        · have := hx x h; omega
        · simp at h; omega) hd
      have e1 : gsum (amtR l cents) (now ++ [i]) = gsum (amtR l cents) now + amtR l cents i := by rw [gsum_app]; simp [gsum]
      have ei1 : ((i + 1 : Nat) : Int) = (i : Int) + 1 := by omega
      rw [e1, up_app, ei1, show up [i] = [(i : Int)] from rfl] at k1
      obtain ⟨d', h1, h2, h3, h4⟩ := add_loop l cents hl hc rec now ub hn m (i + 1) d1 (by omega) (fun x h => by have := hx x h; omega) k2 (fun j hj => hrec j (by omega))
      refine ⟨d', ?_, h2, nb_trans k3 h3, ?_⟩
      · have hul : (up now ++ [(i : Int)]).length = now.length + 1 := by rw [List.length_append, up_len]; rfl
        have etk : List.take (Int.toNat (((up now ++ [(i : Int)]).length : Int) - 1)) (up now ++ [(i : Int)]) = up now := by
          rw [hul, show Int.toNat (((now.length + 1 : Nat) : Int) - 1) = (up now).length by rw [up_len]; omega, List.take_left']
          rfl
        rw [lp_go (s' := (gval (amtR l cents) cents d1, ((i + 1 : Nat) : Int), up now, up d1)) (by
          unfold discount_Best_L2136_step
          refine ite_t (by omega) (bind_i hbar (guard_i (by rw [up_len]; omega) (guard_i (inR_i64.2 (by omega)) (guard_i (Int.natCast_nonneg _) (bind_i (by rw [Int.toNat_natCast]; exact gi) (bind_i ha (guard_i (inR_i64.2 (by omega)) (bind_i k1 ?_))))))))
          refine guard_i (inR_i64.2 (by dsimp only; rw [hul]; omega)) (guard_i (by dsimp only; rw [hul]; omega) (guard_i (by dsimp only; rw [hul]; omega) (guard_i (by dsimp only; rw [hul]; omega) ?_)))
          dsimp only
          rw [etk, ei1])]
        exact h1
      · rintro c hcg ⟨j, e, hj, rfl⟩
        by_cases hji : j = i
        · subst hji
          refine nb_trans (k4 _ hcg ⟨e, by simp, fun x hxe => ?_⟩) h3
          have := hcg.asc
          rw [List.pairwise_append] at this
          have := List.rel_of_pairwise_cons this.2.1 hxe
          omega
        · exact h4 _ hcg ⟨j, e, by omega, rfl⟩
theorem add_loop' (l : List Tapi_Discount) (cents : Int) (sum : Int) (ub ub2 : List Int) (rec : Int → Int → Int → List Int → List Int → Option (Int × List Int × List Int)) : discount_Best_L2671_step l cents sum ub ub2 rec = discount_Best_L2136_step l cents sum ub rec := rfl
end Go.Proofs.Ytabjlmlfmafllaa.Av
