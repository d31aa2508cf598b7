/- Where two trees of digests differ: the program and the reference find the same leaves. (Plain.) -/
import Derived.Test.YtpadimnchmghpaaGreatDoorPB
set_option linter.unusedVariables false
set_option linter.unusedSimpArgs false
set_option maxHeartbeats 1000000
namespace Go.Proofs.YtpadimnchmghpaaGreatDoor.Av
open Go Go.Proofs
/-! ### down a tree -/
section
variable (len : Nat → Nat) (dif : Nat → Nat → Bool)
def chD (t i : Nat) : List Nat := if 2 * i + 1 = len t then [2 * i] else [2 * i, 2 * i + 1].filter (dif t)
def ED : Nat → Nat → List Nat
  | 0, i => [i]
  | t + 1, i => (chD len dif t i).flatMap (ED t)
end
variable {len : Nat → Nat} {dif : Nat → Nat → Bool}
theorem chD_len (t i : Nat) : (chD len dif t i).length ≤ 2 := by
  unfold chD
  split
  · simp
  · exact List.length_filter_le _ _
theorem flat_len {α β : Type} {f : α → List β} {m : Nat} (h : ∀ x, (f x).length ≤ m) : ∀ l : List α, (l.flatMap f).length ≤ l.length * m
  | [] => by simp
  | x :: l => by
    have := flat_len h l
    have := h x
    simp only [List.flatMap_cons, List.length_append, List.length_cons, Nat.add_mul]
    omega
theorem ED_len : ∀ (t i : Nat), (ED len dif t i).length ≤ 2 ^ t
  | 0, i => by simp [ED]
  | t + 1, i => by
    have h1 := flat_len (f := ED len dif t) (m := 2 ^ t) (ED_len t) (chD len dif t i)
    have h2 := chD_len (len := len) (dif := dif) t i
    have h3 : (chD len dif t i).length * 2 ^ t ≤ 2 * 2 ^ t := Nat.mul_le_mul_right _ h2
    unfold ED
    rw [Nat.pow_succ]
    omega
theorem ED_lt (T : Nat) (hl : ∀ t, t < T → len (t + 1) = (len t + 1) / 2) : ∀ (t i : Nat) {e : Nat}, t ≤ T → i < len t → e ∈ ED len dif t i → e < len 0
  | 0, i, e, _, hi, h => by simp [ED] at h; omega
  | t + 1, i, e, ht, hi, h => by
    unfold ED at h
    obtain ⟨j, hj, he⟩ := List.mem_flatMap.1 h
    refine ED_lt T hl t j (by omega) ?_ he
    rw [hl t (by omega)] at hi
    unfold chD at hj
    split at hj
    · simp at hj; omega
    · simp at hj; omega
/-! ### the levels of a tree -/
def upN : Nat → List Int → List Int
  | 0, l => l
  | t + 1, l => upN t (upR l)
theorem upN_succ : ∀ (t : Nat) (l : List Int), upN (t + 1) l = upR (upN t l)
  | 0, l => rfl
  | t + 1, l => upN_succ t (upR l)
theorem levR_get : ∀ (t : Nat) {l : List Int}, t < (levR l).length → (levR l)[t]? = some (upN t l)
  | t, l, h => by
    by_cases h1 : l.length ≤ 1
    · rw [levR_one h1] at h ⊢
      simp at h; subst h; rfl
    · rw [levR_more h1] at h ⊢
      cases t with
      | zero => rfl
      | succ t =>
        rw [List.getElem?_cons_succ]
        exact levR_get t (by simpa using h)
theorem levR_pos (l : List Int) : 0 < (levR l).length := by
  by_cases h : l.length ≤ 1
  · rw [levR_one h]; simp
  · rw [levR_more h]; simp
theorem levR_len : ∀ (n : Nat) {a b : List Int}, a.length ≤ n → a.length = b.length → (levR a).length = (levR b).length
  | 0, a, b, hn, h => by rw [levR_one (by omega), levR_one (by omega)]; rfl
  | n + 1, a, b, hn, h => by
    by_cases h1 : a.length ≤ 1
    · rw [levR_one h1, levR_one (by omega)]; rfl
    · rw [levR_more h1, levR_more (l := b) (by omega), List.length_cons, List.length_cons, levR_len n (a := upR a) (b := upR b) (by rw [upR_len]; omega) (by rw [upR_len, upR_len, h])]
theorem levR_top : ∀ (n : Nat) {a : List Int}, a.length ≤ n → a ≠ [] → (upN ((levR a).length - 1) a).length = 1
  | 0, a, hn, h => by cases a <;> simp at hn h
  | n + 1, a, hn, h => by
    by_cases h1 : a.length ≤ 1
    · rw [levR_one h1]
      cases a with
      | nil => exact absurd rfl h
      | cons x l => simp only [List.length_cons] at h1; show (x :: l).length = 1; simp only [List.length_cons]; omega
    · have h2 := levR_top n (a := upR a) (by rw [upR_len]; omega) (by intro e; have := upR_len a; rw [e] at this; simp at this; omega)
      have h3 := levR_pos (upR a)
      rw [levR_more h1, List.length_cons, show (levR (upR a)).length + 1 - 1 = (levR (upR a)).length - 1 + 1 by omega]
      exact h2
theorem levR_few : ∀ (k : Nat) {a : List Int}, a.length ≤ 2 ^ k → (levR a).length ≤ k + 1
  | 0, a, h => by rw [levR_one (by simpa using h)]; simp
  | k + 1, a, h => by
    by_cases h1 : a.length ≤ 1
    · rw [levR_one h1]; simp
    · rw [levR_more h1, List.length_cons]
      have := levR_few k (a := upR a) (by rw [upR_len]; rw [Nat.pow_succ] at h; omega)
      omega
theorem upN_len : ∀ (t : Nat) {a b : List Int}, a.length = b.length → (upN t a).length = (upN t b).length
  | 0, a, b, h => h
  | t + 1, a, b, h => upN_len t (by rw [upR_len, upR_len, h])
def lenD (a : List Int) (t : Nat) : Nat := (upN t a).length
def difD (a b : List Int) (t i : Nat) : Bool := decide ((upN t a)[i]? ≠ (upN t b)[i]?)
theorem lenD_succ (a : List Int) (t : Nat) : lenD a (t + 1) = (lenD a t + 1) / 2 := by unfold lenD; rw [upN_succ, upR_len]
theorem upN_lone {a : List Int} {t i : Nat} (h : 2 * i + 1 = (upN t a).length) : (upN (t + 1) a)[i]? = (upN t a)[2 * i]? := by
  rw [upN_succ]
  have hi : i < (upR (upN t a)).length := by rw [upR_len]; omega
  rcases upR_get (List.getElem?_eq_getElem hi) with ⟨u, v, h1, h2, h3⟩ | ⟨h1, h2⟩
  · have := (List.getElem?_eq_some_iff.1 h2).1; omega
  · rw [h2, List.getElem?_eq_getElem hi]
theorem difD_lone {a b : List Int} (hab : a.length = b.length) {t i : Nat} (h : 2 * i + 1 = lenD a t) : difD a b (t + 1) i = difD a b t (2 * i) := by
  unfold difD
  rw [upN_lone h, upN_lone (a := b) (h.trans (upN_len t hab))]
def topD (a : List Int) : Nat := (levR a).length - 1
/-- where two trees differ -/
def diffR (a b : List Int) : List Nat := if difD a b (topD a) 0 = true then ED (lenD a) (difD a b) (topD a) 0 else []
theorem diffR_self (a : List Int) : diffR a a = [] := by unfold diffR difD; simp
/-! ### the program's way -/
theorem diff_inner {r3 r5 : List (List Int)} {v12 v69 x277 : Int} {b2 b3 : List Int} {t i : Nat} {c : Int} {acc X Y : List Int} {u0 u1 w0 w1 : Int} (hx : x277 = (i : Int)) (hX : r3[t]? = some X) (hY : r5[t]? = some Y)
    (h0 : X[2 * i]? = some u0) (h1 : X[2 * i + 1]? = some u1) (k0 : Y[2 * i]? = some w0) (k1 : Y[2 * i + 1]? = some w1) (hi : i ≤ 1000000) (hc : 0 ≤ c ∧ c ≤ 1000000000) (ha : acc.length ≤ 1000000000) :
    lp (digest_Differ_L287_step r3 r5 v12 (t : Int) b2 v69 b3 x277) (c, 2 * (i : Int), acc) = some (c + 2, acc ++ (([2 * i, 2 * i + 1].filter fun j => decide (X[j]? ≠ Y[j]?)).map fun (j : Nat) => (j : Int))) := by
  subst hx
  have e0 : Int.toNat (2 * (i : Int)) = 2 * i := by omega
  have e1 : Int.toNat (2 * (i : Int) + 1) = 2 * i + 1 := by omega
  have et : Int.toNat (t : Int) = t := rfl
  have s0 : digest_Differ_L287_step r3 r5 v12 (t : Int) b2 v69 b3 (i : Int) (c, 2 * (i : Int), acc) = some (.inl (c + 1, 2 * (i : Int) + 1, if u0 = w0 then acc else acc ++ [2 * (i : Int)])) := by
    unfold digest_Differ_L287_step
    refine guard_i (by rw [inR_i64]; omega) (guard_i (by rw [inR_i64]; omega) (ite_t (by omega) (guard_i (by rw [inR_i64]; omega) (guard_i (by omega) (bind_i (by rw [et]; exact hX) (guard_i (by omega) (bind_i (by rw [e0]; exact h0) (bind_i (by rw [et]; exact hY) (bind_i (by rw [e0]; exact k0) ?_)))))))))
    by_cases h : u0 = w0
    · rw [if_pos h, if_pos h]; exact guard_i (by rw [inR_i64]; omega) rfl
    · rw [if_neg h, if_neg h]; exact guard_i (by omega) (guard_i (by rw [inR_i64]; omega) rfl)
  have s1 : ∀ acc' : List Int, acc'.length ≤ 1000000001 → digest_Differ_L287_step r3 r5 v12 (t : Int) b2 v69 b3 (i : Int) (c + 1, 2 * (i : Int) + 1, acc') = some (.inl (c + 1 + 1, 2 * (i : Int) + 1 + 1, if u1 = w1 then acc' else acc' ++ [2 * (i : Int) + 1])) := fun acc' ha' => by
    unfold digest_Differ_L287_step
    refine guard_i (by rw [inR_i64]; omega) (guard_i (by rw [inR_i64]; omega) (ite_t (by omega) (guard_i (by rw [inR_i64]; omega) (guard_i (by omega) (bind_i (by rw [et]; exact hX) (guard_i (by omega) (bind_i (by rw [e1]; exact h1) (bind_i (by rw [et]; exact hY) (bind_i (by rw [e1]; exact k1) ?_)))))))))
    by_cases h : u1 = w1
    · rw [if_pos h, if_pos h]; exact guard_i (by rw [inR_i64]; omega) rfl
    · rw [if_neg h, if_neg h]; exact guard_i (by omega) (guard_i (by rw [inR_i64]; omega) rfl)
  have s2 : ∀ acc' : List Int, digest_Differ_L287_step r3 r5 v12 (t : Int) b2 v69 b3 (i : Int) (c + 1 + 1, 2 * (i : Int) + 1 + 1, acc') = some (.inr (c + 1 + 1, acc')) := fun acc' => by
    unfold digest_Differ_L287_step
    exact guard_i (by rw [inR_i64]; omega) (guard_i (by rw [inR_i64]; omega) (ite_f (by omega) rfl))
  rw [lp_go s0, lp_go (s1 _ (by split <;> (try simp only [List.length_append, List.length_cons, List.length_nil]) <;> omega)), lp_end (s2 _)]
  congr 2
  · omega
  · simp only [List.filter_cons, List.filter_nil, h0, h1, k0, k1, ne_eq, Option.some.injEq, decide_not, Bool.not_eq_true', decide_eq_false_iff_not]
    by_cases q0 : u0 = w0 <;> by_cases q1 : u1 = w1 <;> simp [q0, q1]
theorem diff_level {r3 r5 : List (List Int)} {v12 : Int} {b2 : List Int} {t : Nat} {X Y : List Int} {a b : List Int} (hX : r3[t]? = some (upN t a)) (hY : r5[t]? = some (upN t b)) (hab : a.length = b.length) (hlen : a.length ≤ 1000000)
    (hsz : ∀ t, (upN t a).length ≤ 1000000) {o : List Nat} (ho : ∀ i ∈ o, 2 * i < (upN t a).length) (hb2 : b2 = o.map fun (j : Nat) => (j : Int)) {c : Int} (hc : 0 ≤ c ∧ c + 2 * o.length ≤ 100000000) (hol : o.length ≤ 10000000) :
    ∃ c' : Int, c ≤ c' ∧ c' ≤ c + 2 * o.length ∧ lp (digest_Differ_L174_step r3 r5 v12 (t : Int) b2) (c, (0 : Int), b2, []) = some (c', b2, (o.flatMap (chD (lenD a) (difD a b) t)).map fun (j : Nat) => (j : Int)) := by
  have hlab := upN_len t hab
  have key : ∀ (p q : List Nat) (c : Int) (acc : List Int), o = p ++ q → 0 ≤ c → c + 2 * q.length ≤ 100000000 → acc.length + 2 * q.length ≤ 100000000 →
      ∃ c' : Int, c ≤ c' ∧ c' ≤ c + 2 * q.length ∧ lp (digest_Differ_L174_step r3 r5 v12 (t : Int) b2) (c, (p.length : Int), b2, acc) = some (c', b2, acc ++ (q.flatMap (chD (lenD a) (difD a b) t)).map fun (j : Nat) => (j : Int)) := by
    intro p q
    induction q generalizing p with
    | nil =>
      intro c acc hpq h0 h1 h2
      refine ⟨c, Int.le_refl _, by simp, ?_⟩
      rw [List.flatMap_nil, List.map_nil, List.append_nil]
      refine lp_end ?_
      unfold digest_Differ_L174_step
      exact ite_f (by rw [hb2, hpq]; simp) rfl
    | cons i q ih =>
      intro c acc hpq h0 h1 h2
      have hi := ho i (by rw [hpq]; simp)
      have hget : b2[Int.toNat (p.length : Int)]? = some (i : Int) := by rw [hb2, hpq, Int.toNat_natCast]; simp
      have hplen : (p.length : Int) < (b2.length : Int) := by rw [hb2, hpq]; simp; omega
      have hp1 : ((p ++ [i]).length : Int) = (p.length : Int) + 1 := by simp
      have hpo : p.length ≤ 10000000 := by rw [hpq] at hol; simp at hol; omega
      have hs := hsz t
      have et : Int.toNat (t : Int) = t := rfl
      simp only [List.length_cons] at h1 h2
      by_cases hlone : 2 * i + 1 = (upN t a).length
      · obtain ⟨c', g1, g2, g3⟩ := ih (p ++ [i]) c (acc ++ [((2 * i : Nat) : Int)]) (by rw [hpq]; simp) h0 (by omega) (by simp; omega)
        refine ⟨c', g1, by simp only [List.length_cons]; omega, ?_⟩
        rw [lp_go (s' := (c, (p.length : Int) + 1, b2, acc ++ [2 * (i : Int)]))]
        · rw [hp1] at g3
          rw [show (2 * (i : Int)) = ((2 * i : Nat) : Int) by omega, g3]
          congr 3
          rw [List.flatMap_cons, List.map_append, chD, if_pos (show 2 * i + 1 = lenD a t from hlone)]
          simp
        · unfold digest_Differ_L174_step
          exact ite_t hplen (guard_i (by omega) (bind_i hget (guard_i (by rw [inR_i64]; omega) (guard_i (by rw [inR_i64]; omega) (guard_i (by omega) (bind_i (by rw [et]; exact hX) (ite_t (by omega) (guard_i (by omega) (guard_i (by rw [inR_i64]; omega) rfl)))))))))
      · have hb0 : 2 * i < (upN t b).length := by omega
        obtain ⟨c', g1, g2, g3⟩ := ih (p ++ [i]) (c + 2) (acc ++ (([2 * i, 2 * i + 1].filter fun j => decide ((upN t a)[j]? ≠ (upN t b)[j]?)).map fun (j : Nat) => (j : Int))) (by rw [hpq]; simp) (by omega) (by omega) (by
          have := List.length_filter_le (fun j => decide ((upN t a)[j]? ≠ (upN t b)[j]?)) [2 * i, 2 * i + 1]
          simp only [List.length_append, List.length_map, List.length_cons, List.length_nil] at this ⊢
          omega)
        refine ⟨c', by omega, by simp only [List.length_cons]; omega, ?_⟩
        rw [lp_go (s' := (c + 2, (p.length : Int) + 1, b2, acc ++ (([2 * i, 2 * i + 1].filter fun j => decide ((upN t a)[j]? ≠ (upN t b)[j]?)).map fun (j : Nat) => (j : Int))))]
        · rw [hp1] at g3
          rw [g3]
          congr 3
          rw [List.flatMap_cons, List.map_append, chD, if_neg (show ¬ 2 * i + 1 = lenD a t from hlone), List.append_assoc]
          rfl
        · unfold digest_Differ_L174_step
          have a0 := List.getElem?_eq_getElem (l := upN t a) (i := 2 * i) hi
          have a1 := List.getElem?_eq_getElem (l := upN t a) (i := 2 * i + 1) (by omega)
          have b0 := List.getElem?_eq_getElem (l := upN t b) (i := 2 * i) hb0
          have b1 := List.getElem?_eq_getElem (l := upN t b) (i := 2 * i + 1) (by omega)
          exact ite_t hplen (guard_i (by omega) (bind_i hget (guard_i (by rw [inR_i64]; omega) (guard_i (by rw [inR_i64]; omega) (guard_i (by omega) (bind_i (by rw [et]; exact hX) (ite_f (by omega) (bind_i (diff_inner rfl hX hY a0 a1 b0 b1 (by omega) ⟨h0, by omega⟩ (by omega)) (guard_i (by rw [inR_i64]; omega) rfl)))))))))
  obtain ⟨c', g1, g2, g3⟩ := key [] o c [] rfl hc.1 hc.2 (by simp; omega)
  exact ⟨c', g1, g2, by simpa using g3⟩
theorem flat_one (o : List Nat) : o.flatMap (fun i => [i]) = o := by induction o with
  | nil => rfl
  | cons x l ih => rw [List.flatMap_cons, ih]; rfl
theorem diff_down {a b : List Int} (hab : a.length = b.length) (hlen : a.length ≤ 1000000) (hsz : ∀ t, (upN t a).length ≤ 1000000) : ∀ (t k : Nat) (o : List Nat) (c : Int), t < (levR a).length → k + t ≤ 20 → o.length ≤ 2 ^ k → 0 ≤ c → c ≤ 1 + 4 * ((2 ^ k : Nat) : Int) → (∀ i ∈ o, i < (upN t a).length) →
    ∃ c', lp (digest_Differ_L19_step (levR a) (levR b)) (c, (t : Int) - 1, o.map fun (j : Nat) => (j : Int)) = some (c', (o.flatMap (ED (lenD a) (difD a b) t)).map fun (j : Nat) => (j : Int))
  | 0, k, o, c, ht, hk, hol, h0, h1, ho => by
    refine ⟨c, lp_end ?_⟩
    unfold digest_Differ_L19_step
    rw [show ED (lenD a) (difD a b) 0 = fun i => [i] from rfl, flat_one]
    exact ite_f (by omega) rfl
  | t + 1, k, o, c, ht, hk, hol, h0, h1, ho => by
    have hp : (2 : Nat) ^ k ≤ 2 ^ 20 := Nat.pow_le_pow_right (by omega) (by omega)
    have hp' : (2 : Nat) ^ 20 = 1048576 := by decide
    have hX := levR_get t (l := a) (by omega)
    have hY := levR_get t (l := b) (by rw [← levR_len _ (Nat.le_refl _) hab]; omega)
    have hoc : ∀ i ∈ o, 2 * i < (upN t a).length := fun i hi => by
      have := ho i hi
      rw [upN_succ, upR_len] at this
      omega
    obtain ⟨c1, g1, g2, g3⟩ := diff_level (v12 := c) (X := []) (Y := []) hX hY hab hlen hsz hoc rfl (c := c) ⟨h0, by omega⟩ (by omega)
    have hl2 := flat_len (f := chD (lenD a) (difD a b) t) (m := 2) (chD_len t) o
    obtain ⟨c2, g4⟩ := diff_down hab hlen hsz t (k + 1) (o.flatMap (chD (lenD a) (difD a b) t)) c1 (by omega) (by omega) (by rw [Nat.pow_succ]; omega) (by omega) (by rw [Nat.pow_succ]; generalize (2 : Nat) ^ k = q at *; omega) (fun i hi => by
      obtain ⟨j, hj, hi⟩ := List.mem_flatMap.1 hi
      have h3 := hoc j hj
      unfold chD at hi
      split at hi
      · simp at hi; omega
      · rename_i h4
        simp only [lenD] at h4
        simp at hi; omega)
    refine ⟨c2, ?_⟩
    rw [lp_go (s' := (c1, (t : Int) - 1, (o.flatMap (chD (lenD a) (difD a b) t)).map fun (j : Nat) => (j : Int)))]
    · rw [g4, List.flatMap_assoc]; rfl
    · unfold digest_Differ_L19_step
      rw [show ((t + 1 : Nat) : Int) - 1 = (t : Int) by omega]
      exact ite_t (by omega) (bind_i g3 (guard_i (by rw [inR_i64]; omega) rfl))
theorem upN_small {a : List Int} {m : Nat} (h : a.length ≤ m) (hm : 1 ≤ m) : ∀ t, (upN t a).length ≤ m
  | 0 => h
  | t + 1 => by rw [upN_succ, upR_len]; have := upN_small h hm t; omega
theorem Differ_eq {a b : List Int} (ha : ListR a) (hb : ListR b) (hab : a.length = b.length) (hl : a.length ≤ 64) : ∃ c, digest_Differ a b = some ((diffR a b).map (fun (j : Nat) => (j : Int)), c) := by
  have hsz : ∀ t, (upN t a).length ≤ 1000000 := upN_small (by omega) (by omega)
  have hk := levR_few 6 (a := a) (by omega)
  have hp := levR_pos a
  unfold digest_Differ
  by_cases h0 : a.length = 0
  · refine ⟨0, ite_t (by omega) (ite_t (by omega) ?_)⟩
    have ea : a = [] := List.length_eq_zero_iff.1 h0
    have eb : b = [] := List.length_eq_zero_iff.1 (by omega)
    subst ea eb
    rw [diffR_self]; rfl
  · have hane : a ≠ [] := fun e => h0 (by rw [e]; rfl)
    have hX := levR_get (topD a) (l := a) (by unfold topD; omega)
    have hY := levR_get (topD a) (l := b) (by rw [← levR_len _ (Nat.le_refl _) hab]; unfold topD; omega)
    have ht := levR_top _ (Nat.le_refl _) hane
    have htb := upN_len (topD a) hab
    have x0 := List.getElem?_eq_getElem (l := upN (topD a) a) (i := 0) (by unfold topD; omega)
    have y0 := List.getElem?_eq_getElem (l := upN (topD a) b) (i := 0) (by rw [← htb]; unfold topD; omega)
    have e1 : Int.toNat (((levR a).length : Int) - 1) = topD a := by unfold topD; omega
    by_cases hd : (upN (topD a) a)[0]'(by unfold topD; omega) = (upN (topD a) b)[0]'(by rw [← htb]; unfold topD; omega)
    · refine ⟨1, ite_t (by omega) (ite_f (by omega) (bind_i (levels_eq ha (by omega)) (bind_i (levels_eq hb (by omega)) (guard_i (by rw [inR_i64]; omega) (guard_i (by omega) (bind_i (by rw [e1]; exact hX) (bind_i x0 (bind_i (by rw [e1]; exact hY) (bind_i y0 (ite_t hd ?_))))))))))⟩
      unfold diffR
      rw [if_neg]
      · rfl
      · unfold difD; rw [x0, y0]; simp [hd]
    · obtain ⟨c, hc⟩ := diff_down hab (by omega) hsz (topD a) 0 [0] 1 (by unfold topD; omega) (by unfold topD; omega) (by simp) (by omega) (by simp) (fun i hi => by simp at hi; subst hi; unfold topD; omega)
      refine ⟨c, ite_t (by omega) (ite_f (by omega) (bind_i (levels_eq ha (by omega)) (bind_i (levels_eq hb (by omega)) (guard_i (by rw [inR_i64]; omega) (guard_i (by omega) (bind_i (by rw [e1]; exact hX) (bind_i x0 (bind_i (by rw [e1]; exact hY) (bind_i y0 (ite_f hd (guard_i (by rw [inR_i64]; omega) (bind_i (v := (c, _)) (by rw [show ((levR a).length : Int) - 1 - 1 = (topD a : Int) - 1 by unfold topD; omega]; exact hc) ?_))))))))))))⟩
      unfold diffR
      rw [if_pos]
      · simp
      · unfold difD; rw [x0, y0]; simp [hd]
end Go.Proofs.YtpadimnchmghpaaGreatDoor.Av
