/- Trace: what Escape, Why and Print give. -/
import Derived.Test.YtalobodhbbkgdabDoorAvPl
import Derived.Test.YtalobodhbbkgdabDoorR3
set_option linter.unusedVariables false
set_option linter.unusedSimpArgs false
namespace Go.Proofs.YtalobodhbbkgdabDoor.Av
/-- a loop over a list that appends a piece for each element -/
theorem lp_flat {α γ σ ρ : Type} {l : List α} {mk : List γ → Nat → σ} {step : σ → Option (σ ⊕ ρ)} {g : α → List γ} {out : List γ → ρ} (b c : Nat)
    (hg : ∀ x ∈ l, (g x).length ≤ c)
    (hstep : ∀ k x a, l[k]? = some x → x ∈ l → k < l.length → a.length ≤ b + c * k → step (mk a k) = some (.inl (mk (a ++ g x) (k + 1))))
    (hend : ∀ a, a.length ≤ b + c * l.length → step (mk a l.length) = some (.inr (out a))) :
    ∀ (m k : Nat) (a : List γ), k + m = l.length → a.length ≤ b + c * k → lp step (mk a k) = some (out (a ++ (l.drop k).flatMap g)) ∧ (a ++ (l.drop k).flatMap g).length ≤ b + c * l.length
  | 0, k, a, hk, hi => by
    have hk : k = l.length := by omega
    subst hk
    rw [lp_end (hend a hi), List.drop_length]
    simpa using hi
  | m + 1, k, a, hk, hi => by
    have hlt : k < l.length := by omega
    have hx : l[k]? = some l[k] := List.getElem?_eq_getElem hlt
    have hm : l[k] ∈ l := List.getElem_mem hlt
    rw [List.drop_eq_getElem_cons hlt, lp_go (hstep k l[k] a hx hm hlt hi)]
    have h1 := hg _ hm
    have := lp_flat b c hg hstep hend m (k + 1) (a ++ g l[k]) (by omega) (by
      rw [List.length_append, Nat.mul_add]; omega)
    rw [List.flatMap_cons, ← List.append_assoc]
    exact this
def hexT : List UInt8 := [48, 49, 50, 51, 52, 53, 54, 55, 56, 57, 65, 66, 67, 68, 69, 70]
def plB (x : UInt8) : Bool := decide (33 ≤ x.toNat) && decide (x.toNat ≤ 126) && !(decide (x.toNat = 37))
def escB (x : UInt8) : List UInt8 := if plB x = true then [x] else [37, hexT.getD (x.toNat / 16) 0, hexT.getD (x.toNat % 16) 0]
def esc (s : List UInt8) : List UInt8 := if s = [] then [37] else s.flatMap escB
theorem escB_len (x : UInt8) : (escB x).length ≤ 3 := by unfold escB; split <;> simp
theorem plain_eq (x : UInt8) : text_plain (x.toNat : Int) = some (plB x) := by
  unfold text_plain plB
  by_cases h1 : 33 ≤ x.toNat
  · rw [if_pos (by omega)]
    by_cases h2 : x.toNat ≤ 126
    · rw [if_pos (by omega)]
      by_cases h3 : x.toNat = 37
      · simp [h1, h2, h3]
      · have : ¬ ((x.toNat : Int) = 37) := by omega
        simp [h1, h2, h3, this]
    · rw [if_neg (by omega)]; simp [h2]
  · rw [if_neg (by omega)]; simp [h1]
theorem hexT_get {n : Nat} (h : n < 16) : ([48, 49, 50, 51, 52, 53, 54, 55, 56, 57, 65, 66, 67, 68, 69, 70] : List UInt8)[n]? = some (hexT.getD n 0) := by
  have : ∀ n : Fin 16, ([48, 49, 50, 51, 52, 53, 54, 55, 56, 57, 65, 66, 67, 68, 69, 70] : List UInt8)[n.val]? = some (hexT.getD n.val 0) := by decide
  exact this ⟨n, h⟩
theorem div16 (x : UInt8) : Int.tdiv (x.toNat : Int) 16 = ((x.toNat / 16 : Nat) : Int) := by
  rw [Int.tdiv_eq_ediv_of_nonneg (by omega)]; rfl
theorem mod16 (x : UInt8) : Int.tmod (x.toNat : Int) 16 = ((x.toNat % 16 : Nat) : Int) := by
  rw [Int.tmod_eq_emod_of_nonneg (by omega)]; rfl
theorem escape_eq (s : List UInt8) (h : s.length ≤ 1000) : text_Escape s = some (esc s) := by
  unfold text_Escape esc
  by_cases h0 : s = []
  · rw [if_pos h0, if_pos h0]
  · rw [if_neg h0, if_neg h0]
    have key := lp_flat (l := s) (mk := fun a k => (k, a)) (step := text_Escape_L2_step s) (g := escB) (out := fun a => a) 0 3 (fun x _ => escB_len x) ?_ ?_ s.length 0 [] (by omega) (by simp)
    · refine bind_i key.1 ?_
      simp
    · intro k x a hx hm hk ha
      unfold text_Escape_L2_step
      have hlt := x.toNat_lt
      refine ite_t (by omega) (bind_i hx (bind_i (plain_eq x) ?_))
      unfold escB
      by_cases hp : plB x = true
      · rw [if_pos hp, if_pos hp]
        exact guard_i (by omega) (guard_i (inR_i64.2 (by omega)) rfl)
      · rw [if_neg hp, if_neg hp, div16, mod16]
        refine guard_i (inR_u8.2 (by omega)) (guard_i (by omega) (bind_i (by rw [Int.toNat_natCast]; exact hexT_get (by omega)) (guard_i (by omega) (bind_i (by rw [Int.toNat_natCast]; exact hexT_get (by omega)) (guard_i (by omega) (guard_i (inR_i64.2 (by omega)) rfl))))))
    · intro a ha
      unfold text_Escape_L2_step
      exact ite_f (by omega) rfl
theorem esc_len (s : List UInt8) : (esc s).length ≤ 3 * s.length + 1 := by
  unfold esc
  split
  · simp
  · have : ∀ l : List UInt8, (l.flatMap escB).length ≤ 3 * l.length := fun l => by
      induction l with
      | nil => simp
      | cons x l ih => have := escB_len x; simp only [List.flatMap_cons, List.length_append, List.length_cons]; omega
    have := this s
    omega
noncomputable def whyR (w : Int) : List UInt8 := (trace_Why w).getD []
theorem why_eq (w : Int) : trace_Why w = some (whyR w) ∧ (whyR w).length ≤ 30 := by
  have key : ∃ r, trace_Why w = some r ∧ r.length ≤ 30 := by
    unfold trace_Why
    by_cases h1 : w < 0
    · exact ⟨[], by rw [if_pos h1], by simp⟩
    · rw [if_neg h1]
      by_cases h2 : w ≥ 19
      · exact ⟨[], by rw [if_pos h2], by simp⟩
      · rw [if_neg h2, if_pos (by omega), if_pos (by omega)]
        obtain ⟨n, rfl⟩ : ∃ n : Nat, w = n := ⟨w.toNat, by omega⟩
        rw [Int.toNat_natCast]
        have : n < 19 := by omega
        rcases n with _|_|_|_|_|_|_|_|_|_|_|_|_|_|_|_|_|_|_|n <;> first | omega | exact ⟨_, rfl, by decide⟩
  obtain ⟨r, h1, h2⟩ := key
  unfold whyR
  rw [h1]
  exact ⟨rfl, h2⟩
/-- the line of a fact -/
noncomputable def lineF (x : Tapi_Fact) : List UInt8 := x.Kind ++ [32] ++ esc x.Key ++ (if x.Why = 0 then [] else [32] ++ whyR x.Why) ++ [10]
def smallF (l : List Tapi_Fact) : Prop := l.length ≤ 100 ∧ ∀ x ∈ l, x.Kind.length ≤ 300 ∧ x.Key.length ≤ 300
theorem lineF_len {x : Tapi_Fact} (h : x.Kind.length ≤ 300 ∧ x.Key.length ≤ 300) : (lineF x).length ≤ 1300 := by
  unfold lineF
  have h1 := esc_len x.Key
  have h2 := (why_eq x.Why).2
  split <;> simp <;> omega
theorem print_eq (l : List Tapi_Fact) (h : smallF l) : trace_Print l = some (l.flatMap lineF) := by
  have key := fun (hs) (hn) => lp_flat (l := l) (mk := fun a k => (k, a)) (step := trace_Print_L11_step l) (g := lineF) (out := fun a => a) 0 1300 (fun x hx => lineF_len (h.2 x hx)) hs hn
  have hs : ∀ k x a, l[k]? = some x → x ∈ l → k < l.length → a.length ≤ 0 + 1300 * k → trace_Print_L11_step l (k, a) = some (.inl (k + 1, a ++ lineF x)) := by
    intro k x a hx hm hk ha
    have hh := h.2 x hm
    have he := esc_len x.Key
    obtain ⟨hw, hw2⟩ := why_eq x.Why
    have hl := h.1
    unfold trace_Print_L11_step lineF
    refine ite_t (by omega) (bind_i hx (guard_i (by simp; omega) (bind_i (escape_eq _ (by omega)) (guard_i (by simp; omega) (guard_i (by simp; omega) ?_)))))
    by_cases h0 : x.Why = 0
    · rw [if_pos h0, if_pos h0]
      refine guard_i (by simp; omega) (guard_i (inR_i64.2 (by omega)) ?_)
      simp
    · rw [if_neg h0, if_neg h0]
      refine bind_i hw (guard_i (by simp; omega) (guard_i (by simp; omega) (guard_i (by simp; omega) (guard_i (inR_i64.2 (by omega)) ?_))))
      simp
  have hn : ∀ a, a.length ≤ 0 + 1300 * l.length → trace_Print_L11_step l (l.length, a) = some (.inr a) := fun a ha => by
    unfold trace_Print_L11_step
    exact ite_f (by omega) rfl
  unfold trace_Print
  cases hl : l with
  | nil => rfl
  | cons x t =>
    rw [← hl]
    have hm : x ∈ l := by simp [hl]
    have h0 : l[0]? = some x := by simp [hl]
    have hh := h.2 x hm
    have he := esc_len x.Key
    obtain ⟨hw, hw2⟩ := why_eq x.Why
    have hlen := h.1
    have hx := lineF_len hh
    have hpos : 0 < l.length := by simp [hl]
    have hfin : ∀ p, p = lineF x → (lp (trace_Print_L11_step l) (1, p)).bind (fun o => if o.length ≤ 9223372036854775807 then some o else none) = some (l.flatMap lineF) := by
      rintro p rfl
      obtain ⟨k1, k2⟩ := key hs hn (l.length - 1) 1 (lineF x) (by omega) (by omega)
      refine bind_i k1 (guard_i (by omega) ?_)
      simp [hl, List.flatMap_cons]
    refine ite_t (by omega) (bind_i h0 (guard_i (by simp; omega) (bind_i (escape_eq _ (by omega)) (guard_i (by simp; omega) (guard_i (by simp; omega) ?_)))))
    by_cases hz : x.Why = 0
    · rw [if_pos hz]
      refine guard_i (by simp; omega) (hfin _ ?_)
      unfold lineF; rw [if_pos hz]; simp
    · rw [if_neg hz]
      refine bind_i hw (guard_i (by simp; omega) (guard_i (by simp; omega) (guard_i (by simp; omega) (hfin _ ?_))))
      unfold lineF; rw [if_neg hz]
theorem trace_awake_true : tollwaylaw52_awake = some true := by
  unfold tollwaylaw52_awake
  refine ite_t rfl (ite_t rfl (bind_i (print_eq _ ⟨by simp, by simp⟩) ?_))
  decide +kernel
end Go.Proofs.YtalobodhbbkgdabDoor.Av
