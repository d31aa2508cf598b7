/- Combinations: an order among them, the best one, all of them by the bits of a number. (No program.) -/
import Derived.Test.YtabjlmlfmafllaaAvPl
set_option linter.unusedVariables false
set_option linter.unusedSimpArgs false
namespace Go.Proofs.Ytabjlmlfmafllaa.Av
section
variable (amt : Nat → Int) (cents : Int)
def gsum : List Nat → Int
  | [] => 0
  | i :: c => amt i + gsum c
def gval (c : List Nat) : Int := if gsum amt c > cents then cents else gsum amt c
def lexlt : List Nat → List Nat → Bool
  | [], [] => false
  | [], _ :: _ => true
  | _ :: _, [] => false
  | x :: a, y :: b => if x = y then lexlt a b else decide (x < y)
def better (c d : List Nat) : Bool :=
  decide (gval amt cents c > gval amt cents d) || (decide (gval amt cents c = gval amt cents d) && (decide (c.length < d.length) || (decide (c.length = d.length) && lexlt c d)))
end
variable {amt : Nat → Int} {cents : Int}
theorem gsum_app (a b : List Nat) : gsum amt (a ++ b) = gsum amt a + gsum amt b := by
  induction a with
  | nil => simp [gsum]
  | cons x a ih => simp only [List.cons_append, gsum, ih]; omega
theorem lex_total : ∀ {a b : List Nat}, lexlt a b = false → lexlt b a = false → a = b
  | [], [], _, _ => rfl
  | [], y :: b, h, _ => by cases h
  | x :: a, [], _, h => by cases h
  | x :: a, y :: b, h, k => by
    unfold lexlt at h k
    by_cases e : x = y
    · subst e
      rw [if_pos rfl] at h k
      rw [lex_total h k]
    · rw [if_neg e] at h
      rw [if_neg (fun q => e q.symm)] at k
      simp only [decide_eq_false_iff_not] at h k
      omega
theorem lex_trans : ∀ {a b c : List Nat}, a.length = b.length → b.length = c.length → lexlt a b = false → lexlt b c = false → lexlt a c = false
  | [], [], [], _, _, _, _ => rfl
  | x :: a, y :: b, z :: c, h1, h2, h, k => by
    unfold lexlt at h k ⊢
    by_cases e : x = y
    · subst e
      rw [if_pos rfl] at h
      by_cases e2 : x = z
      · subst e2
        rw [if_pos rfl] at k ⊢
        exact lex_trans (by simpa using h1) (by simpa using h2) h k
      · rw [if_neg e2] at k ⊢; exact k
    · rw [if_neg e] at h
      simp only [decide_eq_false_iff_not] at h
      by_cases e2 : y = z
      · subst e2
        rw [if_neg e]; simp only [decide_eq_false_iff_not]; omega
      · rw [if_neg e2] at k
        simp only [decide_eq_false_iff_not] at k
        rw [if_neg (by omega)]; simp only [decide_eq_false_iff_not]; omega
  | [], y :: b, _, h1, _, _, _ => by simp at h1
  | x :: a, [], _, h1, _, _, _ => by simp at h1
  | _, [], z :: c, _, h2, _, _ => by simp at h2
  | _, y :: b, [], _, h2, _, _ => by simp at h2
theorem better_irrefl (c : List Nat) : better amt cents c c = false := by
  have : ∀ a : List Nat, lexlt a a = false := fun a => by
    induction a with
    | nil => rfl
    | cons x a ih => unfold lexlt; rw [if_pos rfl, ih]
  unfold better
  simp [this]
/-- in words of propositions -/
theorem nb_iff {c d : List Nat} : better amt cents c d = false ↔ gval amt cents c ≤ gval amt cents d ∧ (gval amt cents c = gval amt cents d → d.length ≤ c.length ∧ (c.length = d.length → lexlt c d = false)) := by
  unfold better
  generalize gval amt cents c = x
  generalize gval amt cents d = y
  cases hl : lexlt c d <;> simp <;> omega
theorem nb_trans {a b c : List Nat} (h : better amt cents a b = false) (k : better amt cents b c = false) : better amt cents a c = false := by
  rw [nb_iff] at h k ⊢
  obtain ⟨h1, h2⟩ := h
  obtain ⟨k1, k2⟩ := k
  refine ⟨by omega, fun e => ?_⟩
  obtain ⟨h3, h4⟩ := h2 (by omega)
  obtain ⟨k3, k4⟩ := k2 (by omega)
  exact ⟨by omega, fun e2 => lex_trans (by omega) (by omega) (h4 (by omega)) (k4 (by omega))⟩
theorem nb_anti {a b : List Nat} (h : better amt cents a b = false) (k : better amt cents b a = false) : a = b := by
  rw [nb_iff] at h k
  obtain ⟨h1, h2⟩ := h
  obtain ⟨k1, k2⟩ := k
  obtain ⟨h3, h4⟩ := h2 (by omega)
  obtain ⟨k3, k4⟩ := k2 (by omega)
  exact lex_total (h4 (by omega)) (k4 (by omega))
theorem b_nb {a b : List Nat} (h : better amt cents a b = true) : better amt cents b a = false := by
  cases k : better amt cents b a with
  | false => rfl
  | true =>
    have h' := h
    have k' := k
    unfold better at h k
    simp only [Bool.or_eq_true, Bool.and_eq_true, decide_eq_true_eq] at h k
    exfalso
    rcases h with h | ⟨h1, h2⟩ <;> rcases k with k | ⟨k1, k2⟩ <;> try omega
    rcases h2 with h2 | ⟨h2, h3⟩ <;> rcases k2 with k2 | ⟨k2, k3⟩ <;> try omega
    have asym : ∀ a b : List Nat, lexlt a b = true → lexlt b a = true → False := fun a => by
      induction a with
      | nil => intro b h k; cases b <;> simp [lexlt] at h k
      | cons x a ih =>
        intro b h k
        cases b with
        | nil => simp [lexlt] at h
        | cons y b =>
          unfold lexlt at h k
          by_cases e : x = y
          · subst e; rw [if_pos rfl] at h k; exact ih b h k
          · rw [if_neg e] at h; rw [if_neg (fun q => e q.symm)] at k
            simp only [decide_eq_true_eq] at h k; omega
    exact asym _ _ h3 k3

/-! ### good combinations -/
structure GoodC (N : Nat) (conf : Nat → Nat → Bool) (c : List Nat) : Prop where
  asc : c.Pairwise (· < ·)
  lt : ∀ i ∈ c, i < N
  free : c.Pairwise (fun i j => conf i j = false)
variable {N : Nat} {conf : Nat → Nat → Bool}
theorem GoodC.nil : GoodC N conf [] := ⟨List.Pairwise.nil, (fun i h => absurd h (by simp)), List.Pairwise.nil⟩
theorem GoodC.snoc {c : List Nat} {i : Nat} (h : GoodC N conf c) (hi : i < N) (h1 : ∀ x ∈ c, x < i) (h2 : ∀ x ∈ c, conf x i = false) : GoodC N conf (c ++ [i]) := by
  refine ⟨?_, fun x hx => ?_, ?_⟩
  · rw [List.pairwise_append]; exact ⟨h.asc, List.pairwise_singleton .., fun a ha b hb => by simp at hb; subst hb; exact h1 a ha⟩
  · rw [List.mem_append] at hx; rcases hx with hx | hx
    · exact h.lt x hx
    · simp at hx; subst hx; exact hi
  · rw [List.pairwise_append]; exact ⟨h.free, List.pairwise_singleton .., fun a ha b hb => by simp at hb; subst hb; exact h2 a ha⟩
theorem GoodC.sub {c d : List Nat} (h : GoodC N conf c) (hs : d.Sublist c) : GoodC N conf d := ⟨h.asc.sublist hs, fun i hi => h.lt i (hs.subset hi), h.free.sublist hs⟩
def isBest (N : Nat) (conf : Nat → Nat → Bool) (amt : Nat → Int) (cents : Int) (d : List Nat) : Prop := GoodC N conf d ∧ ∀ c, GoodC N conf c → better amt cents c d = false
theorem isBest_eq {c d : List Nat} (h : isBest N conf amt cents c) (k : isBest N conf amt cents d) : c = d := nb_anti (k.2 c h.1) (h.2 d k.1)
/-! ### all combinations, by bits -/
def bl (k m : Nat) : List Nat := (List.range k).filter fun i => m.testBit i
theorem bl_succ (k m : Nat) : bl (k + 1) m = bl k m ++ (if m.testBit k = true then [k] else []) := by
  unfold bl
  rw [List.range_succ, List.filter_append]
  congr 1
  cases h : m.testBit k <;> simp [h]
theorem bl_mem {k m i : Nat} (h : i ∈ bl k m) : i < k := by
  unfold bl at h
  rw [List.mem_filter, List.mem_range] at h
  exact h.1
theorem bl_asc : ∀ k m : Nat, (bl k m).Pairwise (· < ·)
  | 0, m => .nil
  | k + 1, m => by
    rw [bl_succ, List.pairwise_append]
    refine ⟨bl_asc k m, ?_, fun a ha b hb => ?_⟩
    · split
      · exact List.pairwise_singleton ..
      · exact .nil
    · split at hb
      · simp at hb; subst hb; exact bl_mem ha
      · cases hb
theorem bl_len (k m : Nat) : (bl k m).length ≤ k := by
  unfold bl
  exact Nat.le_trans (List.length_filter_le _ _) (by simp)
theorem bl_zero (k : Nat) : bl k 0 = [] := by
  unfold bl
  rw [List.filter_eq_nil_iff]
  intro i _
  simp
theorem bl_congr {k m m' : Nat} (h : ∀ i, i < k → m.testBit i = m'.testBit i) : bl k m = bl k m' := by
  unfold bl
  apply List.filter_congr
  intro i hi
  rw [List.mem_range] at hi
  exact h i hi
theorem bl_all : ∀ (k : Nat) (c : List Nat), c.Pairwise (· < ·) → (∀ i ∈ c, i < k) → ∃ m, m < 2 ^ k ∧ bl k m = c
  | 0, c, _, h => by
    cases c with
    | nil => exact ⟨0, by simp, rfl⟩
    | cons x c => have := h x (List.mem_cons_self ..); omega
  | k + 1, c, ha, hl => by
    rcases List.eq_nil_or_concat c with rfl | ⟨l, x, rfl⟩
    · exact ⟨0, Nat.two_pow_pos _, bl_zero _⟩
    · simp only [List.concat_eq_append] at ha hl ⊢
      rw [List.pairwise_append] at ha
      have hx : x < k + 1 := hl x (by simp)
      have hlx : ∀ i ∈ l, i < x := fun i hi => ha.2.2 i hi x (by simp)
      by_cases e : x = k
      · subst e
        obtain ⟨m, h1, h2⟩ := bl_all x l ha.1 hlx
        refine ⟨2 ^ x + m, by rw [Nat.pow_succ]; omega, ?_⟩
        rw [bl_succ, Nat.testBit_two_pow_add_eq, Nat.testBit_lt_two_pow h1]
        simp only [Bool.not_false, if_true]
        rw [← h2]
        congr 1
        exact bl_congr fun i hi => Nat.testBit_two_pow_add_gt hi m
      · obtain ⟨m, h1, h2⟩ := bl_all k (l ++ [x]) (by rw [List.pairwise_append]; exact ha) (fun i hi => by
          rw [List.mem_append] at hi
          rcases hi with hi | hi
          · have := hlx i hi; omega
          · simp at hi; omega)
        refine ⟨m, by rw [Nat.pow_succ]; omega, ?_⟩
        rw [bl_succ, Nat.testBit_lt_two_pow h1, h2]
        simp
end Go.Proofs.Ytabjlmlfmafllaa.Av
