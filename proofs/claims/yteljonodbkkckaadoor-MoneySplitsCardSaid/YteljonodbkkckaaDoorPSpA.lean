/- Plain lemmas about shares: sums, counts and choices in lists. -/
namespace Go.Proofs.YteljonodbkkckaaDoor.Av
theorem sp_sum_set (l : List Int) : ∀ (a : Nat) (x y : Int), l[a]? = some y → (l.set a x).sum = l.sum + x - y := by
  induction l with
  | nil => intro a x y h; simp at h
  | cons b l ih =>
    intro a x y h
    cases a with
    | zero =>
      simp only [List.getElem?_cons_zero, Option.some.injEq] at h
      simp only [List.set_cons_zero, List.sum_cons]; omega
    | succ a =>
      simp only [List.getElem?_cons_succ] at h
      simp only [List.set_cons_succ, List.sum_cons, ih a x y h]; omega
theorem sp_count_set (u : List Bool) : ∀ (a : Nat), u[a]? = some false → (u.set a true).count true = u.count true + 1 := by
  induction u with
  | nil => intro a h; simp at h
  | cons b l ih =>
    intro a h
    cases a with
    | zero =>
      simp only [List.getElem?_cons_zero, Option.some.injEq] at h
      subst h
      simp
    | succ a =>
      simp only [List.getElem?_cons_succ] at h
      simp only [List.set_cons_succ, List.count_cons, ih a h]; omega
/-- If what is not used is nothing, the sum is at most the bound times the number of the used. -/
theorem sp_few (W : Int) (r : List Int) : ∀ (u : List Bool), u.length = r.length → (∀ (i : Nat) x, r[i]? = some x → x ≤ W) → (∀ (i : Nat) x, r[i]? = some x → u[i]? = some false → x ≤ 0) → r.sum ≤ W * (u.count true : Nat) := by
  induction r with
  | nil =>
    intro u hu _ _
    simp only [List.length_nil, List.length_eq_zero_iff] at hu
    subst hu; simp
  | cons b r ih =>
    intro u hu h1 h2
    cases u with
    | nil => simp at hu
    | cons c u =>
      have := ih u (by simpa using hu) (fun i x hx => h1 (i+1) x (by simpa using hx)) (fun i x hx hu => h2 (i+1) x (by simpa using hx) (by simpa using hu))
      have hb := h1 0 b rfl
      cases c with
      | true =>
        simp only [List.sum_cons, List.count_cons_self]
        rw [show ((List.count true u + 1 : Nat) : Int) = (List.count true u : Int) + 1 by omega, Int.mul_add]
        omega
      | false =>
        have := h2 0 b rfl rfl
        simp only [List.sum_cons, List.count_cons]
        simp
        omega
/-- The one that is chosen: unused, with the largest rest, the first of those. -/
def SpBest (r : List Int) (u : List Bool) (a : Nat) : Prop :=
  ∃ x, r[a]? = some x ∧ u[a]? = some false ∧ ∀ (j : Nat) y, r[j]? = some y → u[j]? = some false → y ≤ x ∧ (y = x → a ≤ j)
theorem spBest_uniq {r u} {a b : Nat} (h : SpBest r u a) (g : SpBest r u b) : a = b := by
  obtain ⟨x, h1, h2, h3⟩ := h
  obtain ⟨y, g1, g2, g3⟩ := g
  have p := h3 b y g1 g2
  have q := g3 a x h1 h2
  have e : y = x := by omega
  have := p.2 e; have := q.2 e.symm; omega
/-- What holds between the picks. -/
structure SpInv (q r : List Int) (L : Int) (left : Int) (parts : List Int) (u : List Bool) : Prop where
  lp : parts.length = q.length
  lu : u.length = q.length
  el : ∀ (i : Nat) x b, q[i]? = some x → u[i]? = some b → parts[i]? = some (x + (if b = true then 1 else 0))
  sm : parts.sum = q.sum + (u.count true : Nat)
  ct : left + (u.count true : Nat) = L
  cl : ∀ (i k : Nat) x y, r[i]? = some x → r[k]? = some y → u[i]? = some true → u[k]? = some false → y ≤ x ∧ (y = x → i < k)
  po : ∀ (i : Nat) x, r[i]? = some x → u[i]? = some true → 0 < x
theorem spInv_start (q r : List Int) (L : Int) : SpInv q r L L q (List.replicate q.length false) where
  lp := rfl
  lu := by simp
  el := by
    intro i x b h1 h2
    rw [List.getElem?_replicate] at h2
    split at h2
    · simp only [Option.some.injEq] at h2; subst h2; simpa using h1
    · simp at h2
  sm := by
    rw [List.count_replicate]; simp
  ct := by rw [List.count_replicate]; simp
  cl := by
    intro i k x y _ _ h2
    rw [List.getElem?_replicate] at h2
    split at h2 <;> simp at h2
  po := by
    intro i x _ h2
    rw [List.getElem?_replicate] at h2
    split at h2 <;> simp at h2
/-- While something is left, the best one has a rest. -/
theorem spBest_pos {q r : List Int} {L left : Int} {parts : List Int} {u : List Bool} (W : Int) (hW : 0 < W) (h : SpInv q r L left parts u) (hl : r.length = q.length) (hr : ∀ (i : Nat) x, r[i]? = some x → 0 ≤ x ∧ x < W) (hs : r.sum = L * W) (hp : 0 < left) {a : Nat} (hb : SpBest r u a) : ∃ x, r[a]? = some x ∧ 0 < x := by
  obtain ⟨x, h1, h2, h3⟩ := hb
  refine ⟨x, h1, ?_⟩
  rcases Int.lt_or_le 0 x with h | h0
  · exact h
  · exfalso
    have f := sp_few W r u (by rw [h.lu, hl]) (fun i y hy => by have := hr i y hy; omega) (fun i y hy hu => by have := (h3 i y hy hu).1; omega)
    have c := h.ct
    rw [hs] at f
    have : L * W ≤ (u.count true : Nat) * W := by rw [Int.mul_comm ((u.count true : Nat) : Int)]; exact f
    have := Int.le_of_mul_le_mul_right this hW
    omega
theorem sp_some {r : List Int} {u : List Bool} (hl : u.length = r.length) {q : List Int} {L left : Int} {parts : List Int} (W : Int) (hW : 0 < W) (h : SpInv q r L left parts u) (hr : ∀ (i : Nat) x, r[i]? = some x → 0 ≤ x ∧ x < W) (hs : r.sum = L * W) (hp : 0 < left) : ∃ (i : Nat) (x : Int), r[i]? = some x ∧ u[i]? = some false := by
  apply Classical.byContradiction
  intro hn
  have f := sp_few W r u hl (fun i y hy => by have := hr i y hy; omega) (fun i y hy hu => absurd ⟨i, y, hy, hu⟩ hn)
  have c := h.ct
  rw [hs] at f
  have : L * W ≤ (u.count true : Nat) * W := by rw [Int.mul_comm ((u.count true : Nat) : Int)]; exact f
  have := Int.le_of_mul_le_mul_right this hW
  omega
theorem spInv_step {q r : List Int} {L left : Int} {parts : List Int} {u : List Bool} (h : SpInv q r L left parts u) {a : Nat} {x p : Int} (hb : SpBest r u a) (hx : r[a]? = some x) (hx0 : 0 < x) (hp : parts[a]? = some p) : SpInv q r L (left - 1) (parts.set a (p + 1)) (u.set a true) := by
  obtain ⟨x', h1, h2, h3⟩ := hb
  rw [hx] at h1
  obtain rfl := Option.some.inj h1
  have hau : a < u.length := by
    rcases Nat.lt_or_ge a u.length with h | h
    · exact h
    · rw [List.getElem?_eq_none h] at h2; simp at h2
  have hap : a < parts.length := by rw [h.lp, ← h.lu]; exact hau
  refine ⟨by simp [h.lp], by simp [h.lu], ?_, ?_, ?_, ?_, ?_⟩
  · intro i y b hq hu
    rw [List.getElem?_set] at hu ⊢
    by_cases e : a = i
    · subst e
      rw [if_pos rfl, if_pos hau] at hu
      obtain rfl := Option.some.inj hu
      rw [if_pos rfl, if_pos hap]
      have := h.el a y false hq h2
      rw [hp] at this
      simp at this
      simp [this]
    · rw [if_neg e] at hu ⊢
      exact h.el i y b hq hu
  · rw [sp_sum_set _ a (p+1) p hp, sp_count_set _ a h2, h.sm]; omega
  · rw [sp_count_set _ a h2]; have := h.ct; omega
  · intro i k y z hi hk hui huk
    rw [List.getElem?_set] at hui huk
    by_cases e : a = k
    · subst e; rw [if_pos rfl, if_pos hau] at huk; simp at huk
    · rw [if_neg e] at huk
      by_cases e' : a = i
      · subst e'
        rw [hx] at hi
        obtain rfl := Option.some.inj hi
        have := h3 k z hk huk
        refine ⟨this.1, fun g => ?_⟩
        have := this.2 g
        omega
      · rw [if_neg e'] at hui
        exact h.cl i k y z hi hk hui huk
  · intro i y hi hui
    rw [List.getElem?_set] at hui
    by_cases e : a = i
    · subst e
      rw [hx] at hi
      obtain rfl := Option.some.inj hi
      exact hx0
    · rw [if_neg e] at hui
      exact h.po i y hi hui
/-- The parts are ordered like the weights. -/
theorem sp_ord (T W : Int) (hW : 0 < W) (hT : 0 ≤ T) (ws : List Int) {L left : Int} {parts : List Int} {u : List Bool} (h : SpInv (ws.map fun w => T * w / W) (ws.map fun w => T * w % W) L left parts u) {i k : Nat} (hk : k < i) {wi wk pi pk : Int} (h1 : ws[i]? = some wi) (h2 : ws[k]? = some wk) (g1 : parts[i]? = some pi) (g2 : parts[k]? = some pk) : (wk ≥ wi → pk ≥ pi) ∧ (wk < wi → pk ≤ pi) := by
  have hi : i < u.length := by
    rw [h.lu, List.length_map]
    exact (List.getElem?_eq_some_iff.1 h1).1
  have hk' : k < u.length := by omega
  have r1 : (ws.map fun w => T * w % W)[i]? = some (T * wi % W) := by rw [List.getElem?_map, h1]; rfl
  have r2 : (ws.map fun w => T * w % W)[k]? = some (T * wk % W) := by rw [List.getElem?_map, h2]; rfl
  have q1 : (ws.map fun w => T * w / W)[i]? = some (T * wi / W) := by rw [List.getElem?_map, h1]; rfl
  have q2 : (ws.map fun w => T * w / W)[k]? = some (T * wk / W) := by rw [List.getElem?_map, h2]; rfl
  have u1 : u[i]? = some u[i] := List.getElem?_eq_getElem hi
  have u2 : u[k]? = some u[k] := List.getElem?_eq_getElem hk'
  have e1 := h.el i _ _ q1 u1
  have e2 := h.el k _ _ q2 u2
  rw [g1] at e1
  rw [g2] at e2
  have e1 := Option.some.inj e1
  have e2 := Option.some.inj e2
  have a1 := Int.mul_ediv_add_emod (T * wi) W
  have a2 := Int.mul_ediv_add_emod (T * wk) W
  have b1 := Int.emod_nonneg (T * wi) (show W ≠ 0 by omega)
  have b2 := Int.emod_nonneg (T * wk) (show W ≠ 0 by omega)
  have m : ∀ a b : Int, a ≤ b → a / W ≤ b / W := fun a b h => Int.ediv_le_ediv hW h
  constructor
  · intro hw
    have hm : T * wi ≤ T * wk := Int.mul_le_mul_of_nonneg_left hw hT
    have hq := m _ _ hm
    rcases Int.lt_or_le (T * wi / W) (T * wk / W) with hl | hl
    · rw [e1, e2]; split <;> split <;> omega
    · have he : T * wi / W = T * wk / W := by omega
      rw [he] at a1
      have hr : T * wi % W ≤ T * wk % W := by omega
      cases x1 : u[i] with
      | false => rw [e1, e2, x1, he]; simp; split <;> omega
      | true =>
        cases x2 : u[k] with
        | true => rw [e1, e2, x1, x2, he]; simp
        | false =>
          have := h.cl i k _ _ r1 r2 (by rw [u1, x1]) (by rw [u2, x2])
          have := this.2 (by omega)
          omega
  · intro hw
    have hm : T * wk ≤ T * wi := Int.mul_le_mul_of_nonneg_left (by omega) hT
    have hq := m _ _ hm
    rcases Int.lt_or_le (T * wk / W) (T * wi / W) with hl | hl
    · rw [e1, e2]; split <;> split <;> omega
    · have he : T * wi / W = T * wk / W := by omega
      rw [he] at a1
      have hr : T * wk % W ≤ T * wi % W := by omega
      cases x2 : u[k] with
      | false => rw [e1, e2, x2, he]; simp; split <;> omega
      | true =>
        cases x1 : u[i] with
        | true => rw [e1, e2, x1, x2, he]; simp
        | false =>
          have c := h.cl k i _ _ r2 r1 (by rw [u2, x2]) (by rw [u1, x1])
          have p := h.po k _ r2 (by rw [u2, x2])
          have he : T * wk = T * wi := by omega
          exfalso
          rcases Int.lt_or_le 0 T with t | t
          · have := Int.mul_lt_mul_of_pos_left hw t
            omega
          · have : T = 0 := by omega
            subst this
            simp at p
/-- Each part is the floor, or one more where there is a rest. -/
theorem sp_near (T W : Int) (ws : List Int) {L left : Int} {parts : List Int} {u : List Bool} (h : SpInv (ws.map fun w => T * w / W) (ws.map fun w => T * w % W) L left parts u) {i : Nat} {wi pi : Int} (h1 : ws[i]? = some wi) (g1 : parts[i]? = some pi) : T * wi / W ≤ pi ∧ pi ≤ (if T * wi % W > 0 then T * wi / W + 1 else T * wi / W) := by
  have hi : i < u.length := by
    rw [h.lu, List.length_map]
    exact (List.getElem?_eq_some_iff.1 h1).1
  have r1 : (ws.map fun w => T * w % W)[i]? = some (T * wi % W) := by rw [List.getElem?_map, h1]; rfl
  have q1 : (ws.map fun w => T * w / W)[i]? = some (T * wi / W) := by rw [List.getElem?_map, h1]; rfl
  have u1 : u[i]? = some u[i] := List.getElem?_eq_getElem hi
  have e1 := h.el i _ _ q1 u1
  rw [g1] at e1
  have e1 := Option.some.inj e1
  cases x1 : u[i] with
  | false => rw [e1, x1]; simp; split <;> omega
  | true =>
    have p := h.po i _ r1 (by rw [u1, x1])
    rw [e1, x1, if_pos p]; simp; omega
/-- What the floors leave, times the sum of the weights, is the sum of the rests. -/
theorem sp_rests (T W : Int) (ws : List Int) : W * (ws.map fun w => T * w / W).sum + (ws.map fun w => T * w % W).sum = T * ws.sum := by
  induction ws with
  | nil => simp
  | cons w ws ih =>
    simp only [List.map_cons, List.sum_cons, Int.mul_add]
    have := Int.mul_ediv_add_emod (T * w) W
    omega
theorem sp_sum_nonneg (l : List Int) (h : ∀ x ∈ l, 0 ≤ x) : 0 ≤ l.sum := by
  induction l with
  | nil => simp
  | cons a l ih =>
    have := ih (fun x hx => h x (List.mem_cons_of_mem _ hx))
    have := h a List.mem_cons_self
    simp only [List.sum_cons]; omega
end Go.Proofs.YteljonodbkkckaaDoor.Av
