/- The keys of two lists of charges, in ascending order: the program's and the reference's are the same. (Plain.) -/
import Derived.Test.YtpadimnchmghpaaGreatDoorPA
import Derived.Test.YtpadimnchmghpaaGreatDoorR1
import Derived.Test.YtpadimnchmghpaaGreatDoorSkD
set_option linter.unusedVariables false
set_option linter.unusedSimpArgs false
set_option maxHeartbeats 1000000
namespace Go.Proofs.YtpadimnchmghpaaGreatDoor.Av
open Go Go.Proofs
abbrev Str := List UInt8
/-! ### the order of strings -/
def cmpS : Str → Str → Bool ⊕ Unit
  | [], _ => .inr ()
  | _ :: _, [] => .inr ()
  | a :: s, b :: x => if a = b then cmpS s x else .inl (decide (a < b))
theorem before_loop {s x : Str} (hs : s.length ≤ 4294967296) : ∀ (m k : Nat), k + m = s.length → lp (tollwayref07_Insert_L45_step s x) k = some (cmpS (s.drop k) (x.drop k))
  | 0, k, h => by
    rw [List.drop_of_length_le (by omega)]
    exact lp_end (ite_f (by omega) rfl)
  | m + 1, k, h => by
    have hk : k < s.length := by omega
    rw [List.drop_eq_getElem_cons hk]
    by_cases hx : k < x.length
    · rw [List.drop_eq_getElem_cons hx]
      unfold cmpS
      by_cases he : s[k] = x[k]
      · rw [if_pos he, ← before_loop hs m (k + 1) (by omega)]
        exact lp_go (ite_t (by omega) (ite_t (by omega) (bind_i (List.getElem?_eq_getElem hk) (bind_i (List.getElem?_eq_getElem hx) (ite_t (by rw [he]) (guard_i (by rw [inR_i64]; omega) rfl))))))
      · rw [if_neg he]
        refine lp_end (ite_t (by omega) (ite_t (by omega) (bind_i (List.getElem?_eq_getElem hk) (bind_i (List.getElem?_eq_getElem hx) (ite_f ?_ ?_)))))
        · intro h1; exact he (UInt8.toNat_inj.1 (by omega))
        · have : (((s[k]).toNat : Int) < ((x[k]).toNat : Int)) ↔ s[k] < x[k] := by rw [UInt8.lt_iff_toNat_lt]; omega
          simp only [this]
    · rw [List.drop_of_length_le (l := x) (by omega)]
      exact lp_end (ite_t (by omega) (ite_f (by omega) rfl))
theorem cmpS_lt : ∀ (s x : Str), (match cmpS s x with | .inl b => b | .inr _ => decide (s.length < x.length)) = decide (s < x)
  | [], [] => by simp [cmpS]
  | [], b :: x => by simp [cmpS]
  | a :: s, [] => by simp [cmpS]
  | a :: s, b :: x => by
    unfold cmpS
    by_cases h : a = b
    · subst h
      rw [if_pos rfl]
      have := cmpS_lt s x
      simp only [List.length_cons, Nat.add_lt_add_iff_right, List.cons_lt_cons_iff, true_and]
      rw [this]
      have hirr : ¬ a < a := UInt8.lt_irrefl a
      simp [hirr]
    · rw [if_neg h]
      simp [List.cons_lt_cons_iff, h]
/-! ### insertion -/
def insS : List Str → Str → List Str
  | [], s => [s]
  | x :: l, s => if x = s then x :: l else if s < x then s :: x :: l else x :: insS l s
def AscS (l : List Str) : Prop := l.Pairwise (· < ·)
theorem insS_mem : ∀ {l : List Str} {s k : Str}, k ∈ insS l s ↔ k ∈ l ∨ k = s
  | [], s, k => by simp [insS]
  | x :: l, s, k => by
    unfold insS
    by_cases h : x = s
    · subst h; rw [if_pos rfl]; simp only [List.mem_cons]; exact ⟨.inl, fun h => h.elim (fun h => h) .inl⟩
    · rw [if_neg h]
      split
      · simp only [List.mem_cons]
        constructor
        · rintro (h | h | h)
          · exact .inr h
          · exact .inl (.inl h)
          · exact .inl (.inr h)
        · rintro ((h | h) | h)
          · exact .inr (.inl h)
          · exact .inr (.inr h)
          · exact .inl h
      · simp only [List.mem_cons, insS_mem (l := l)]
        constructor
        · rintro (h | h | h)
          · exact .inl (.inl h)
          · exact .inl (.inr h)
          · exact .inr h
        · rintro ((h | h) | h)
          · exact .inl h
          · exact .inr (.inl h)
          · exact .inr (.inr h)
theorem lt_tot {a b : Str} (h1 : ¬ a < b) (h2 : a ≠ b) : b < a :=
  Decidable.byContradiction fun h => h2 (List.le_antisymm (List.not_lt.1 h) (List.not_lt.1 h1))
theorem insS_asc : ∀ {l : List Str} {s : Str}, AscS l → AscS (insS l s)
  | [], s, h => by simp [insS, AscS]
  | x :: l, s, h => by
    unfold insS
    by_cases h1 : x = s
    · rw [if_pos h1]; exact h
    · rw [if_neg h1]
      have h' := List.pairwise_cons.1 h
      split
      · rename_i h2
        refine List.pairwise_cons.2 ⟨fun y hy => ?_, h⟩
        rcases List.mem_cons.1 hy with rfl | hy
        · exact h2
        · exact List.lt_trans h2 (h'.1 y hy)
      · rename_i h2
        refine List.pairwise_cons.2 ⟨fun y hy => ?_, insS_asc h'.2⟩
        rcases insS_mem.1 hy with hy | rfl
        · exact h'.1 y hy
        · exact lt_tot h2 (fun e => h1 e.symm)
theorem insS_len : ∀ (l : List Str) (s : Str), (insS l s).length ≤ l.length + 1
  | [], s => by simp [insS]
  | x :: l, s => by
    unfold insS
    split
    · simp
    · split
      · simp
      · have := insS_len l s; simp; omega
def insG (s : Str) : Bool × List Str → Str → (Unit ⊕ (Bool × List Str)) ⊕ (Bool × List Str) := fun st x =>
  if x = s then .inl (.inl ()) else if st.1 = true then .inr (true, st.2 ++ [x]) else if s < x then .inr (true, (st.2 ++ [s]) ++ [x]) else .inr (false, st.2 ++ [x])
theorem insG_done {s : Str} : ∀ (l : List Str) (b : List Str), (∀ x ∈ l, x ≠ s) → foldE (insG s) (fun st => .inr st) l (true, b) = .inr (true, b ++ l)
  | [], b, h => by simp [foldE]
  | x :: l, b, h => by
    have hx := h x (by simp)
    unfold foldE
    have : insG s (true, b) x = .inr (true, b ++ [x]) := by unfold insG; rw [if_neg hx, if_pos rfl]
    rw [this]
    simp only
    rw [insG_done l (b ++ [x]) (fun y hy => h y (by simp [hy]))]
    simp
theorem insG_go {s : Str} : ∀ (l : List Str) (b : List Str), AscS l → (s ∈ l → foldE (insG s) (fun st => .inr st) l (false, b) = .inl ()) ∧ (s ∉ l → ∃ d b', foldE (insG s) (fun st => .inr st) l (false, b) = .inr (d, b') ∧ (if d = true then b' else b' ++ [s]) = b ++ insS l s ∧ b'.length ≤ b.length + l.length + 1)
  | [], b, h => ⟨fun h => by simp at h, fun _ => ⟨false, b, rfl, by simp [insS], by simp⟩⟩
  | x :: l, b, h => by
    have h' := List.pairwise_cons.1 h
    unfold foldE
    by_cases hx : x = s
    · have e : insG s (false, b) x = .inl (.inl ()) := by unfold insG; rw [if_pos hx]
      rw [e]
      exact ⟨fun _ => rfl, fun hn => absurd (by simp [hx]) hn⟩
    · by_cases hlt : s < x
      · have e : insG s (false, b) x = .inr (true, (b ++ [s]) ++ [x]) := by unfold insG; rw [if_neg hx, if_neg (by simp), if_pos hlt]
        have hno : ∀ y ∈ l, y ≠ s := fun y hy e => by
          subst e
          exact List.lt_irrefl y (List.lt_trans hlt (h'.1 y hy))
        rw [e]
        simp only
        rw [insG_done l _ hno]
        refine ⟨fun hm => ?_, fun _ => ⟨true, _, rfl, ?_, by simp; omega⟩⟩
        · rcases List.mem_cons.1 hm with h1 | h1
          · exact absurd h1.symm hx
          · exact absurd rfl (hno s h1)
        · rw [if_pos rfl, insS, if_neg hx, if_pos hlt]; simp
      · have e : insG s (false, b) x = .inr (false, b ++ [x]) := by unfold insG; rw [if_neg hx, if_neg (by simp), if_neg hlt]
        rw [e]
        simp only
        obtain ⟨h1, h2⟩ := insG_go l (b ++ [x]) h'.2
        refine ⟨fun hm => ?_, fun hn => ?_⟩
        · rcases List.mem_cons.1 hm with h3 | h3
          · exact absurd h3.symm hx
          · exact h1 h3
        · obtain ⟨d, b', k1, k2, k3⟩ := h2 (fun hm => hn (by simp [hm]))
          refine ⟨d, b', k1, ?_, by simp at k3 ⊢; omega⟩
          rw [k2, insS, if_neg hx, if_neg hlt]; simp
theorem insS_in : ∀ {l : List Str} {s : Str}, AscS l → s ∈ l → insS l s = l
  | x :: l, s, h, hm => by
    have h' := List.pairwise_cons.1 h
    unfold insS
    by_cases hx : x = s
    · rw [if_pos hx]
    · rw [if_neg hx]
      rcases List.mem_cons.1 hm with h3 | h3
      · exact absurd h3.symm hx
      · rw [if_neg (fun hlt => List.lt_irrefl s (List.lt_trans hlt (h'.1 s h3))), insS_in h'.2 h3]
theorem Insert_eq {l : List Str} {s : Str} (hl : l.length ≤ 1000000) (hs : s.length ≤ 4294967296) (ha : AscS l) : tollwayref07_Insert l s = some (insS l s) := by
  have key := lp_foldE0 (l := l) (mk := fun (st : Bool × List Str) k => (st.1, k, st.2)) (step := tollwayref07_Insert_L1_step l s) (g := insG s) (out := fun st => .inr st) (fun k st => st.2.length ≤ k + 1 ∧ (st.1 = false → st.2.length ≤ k))
    (fun k x st hx hI => by
      obtain ⟨d, b⟩ := st
      have hk := (List.getElem?_eq_some_iff.1 hx).1
      simp only at hI
      have hb := hI.1
      constructor
      · unfold insG
        dsimp only
        by_cases h1 : x = s
        · rw [if_pos h1]
          exact ite_t (by omega) (bind_i hx (ite_t h1 rfl))
        · rw [if_neg h1]
          cases d with
          | true =>
            rw [if_pos rfl]
            exact ite_t (by omega) (bind_i hx (ite_f h1 (ite_t rfl (guard_i (by omega) (guard_i (by rw [inR_i64]; omega) rfl)))))
          | false =>
            rw [if_neg (by simp)]
            have hb2 := hI.2 rfl
            refine ite_t (by omega) (bind_i hx (ite_f h1 (ite_f (by simp) (bind_i (before_loop hs s.length 0 (by omega)) ?_))))
            have hc := cmpS_lt s x
            simp only [List.drop_zero]
            cases hq : cmpS s x with
            | inl o =>
              rw [hq] at hc
              simp only at hc ⊢
              by_cases hlt : s < x
              · rw [if_pos hlt]
                exact ite_t (by rw [hc]; exact decide_eq_true hlt) (guard_i (by omega) (guard_i (by simp; omega) (guard_i (by rw [inR_i64]; omega) rfl)))
              · rw [if_neg hlt]
                exact ite_f (by rw [hc]; simp [hlt]) (guard_i (by omega) (guard_i (by rw [inR_i64]; omega) rfl))
            | inr o =>
              rw [hq] at hc
              simp only at hc ⊢
              have hc' : s.length < x.length ↔ s < x := by
                constructor
                · intro h; have := hc ▸ decide_eq_true h; exact of_decide_eq_true this
                · intro h; have := hc.symm ▸ decide_eq_true h; exact of_decide_eq_true this
              by_cases hlt : s < x
              · rw [if_pos hlt]
                exact ite_t (by have := hc'.2 hlt; omega) (guard_i (by omega) (guard_i (by simp; omega) (guard_i (by rw [inR_i64]; omega) rfl)))
              · rw [if_neg hlt]
                exact ite_f (by intro h; exact hlt (hc'.1 (by omega))) (guard_i (by omega) (guard_i (by rw [inR_i64]; omega) rfl))
      · intro st' h2
        unfold insG at h2
        dsimp only at h2
        split at h2
        · cases h2
        · split at h2
          · cases h2; simp; omega
          · rename_i h3
            have hb2 := hI.2 (by simpa using h3)
            split at h2
            · cases h2; simp; omega
            · cases h2; simp; omega)
    (fun st hI => ite_f (by omega) rfl) (a := (false, [])) ⟨by simp, by simp⟩
  obtain ⟨h1, h2⟩ := insG_go l [] ha
  unfold tollwayref07_Insert
  refine bind_i key ?_
  by_cases hm : s ∈ l
  · rw [h1 hm, insS_in ha hm]
  · obtain ⟨d, b', k1, k2, k3⟩ := h2 hm
    rw [k1]
    simp only [List.nil_append, List.length_nil] at k2 k3 ⊢
    cases d with
    | true => rw [if_pos rfl] at k2; rw [k2]; exact ite_t rfl rfl
    | false => rw [if_neg (by simp)] at k2; exact ite_f (by simp) (guard_i (by omega) (by rw [k2]))
/-- strictly ascending lists with the same elements -/
theorem asc_unique : ∀ {l m : List Str}, AscS l → AscS m → (∀ k, k ∈ l ↔ k ∈ m) → l = m := fun {l m} h1 h2 h => by
  have n1 : l.Nodup := h1.imp fun {a b} hab e => by subst e; exact List.lt_irrefl _ hab
  have n2 : m.Nodup := h2.imp fun {a b} hab e => by subst e; exact List.lt_irrefl _ hab
  exact List.Perm.eq_of_pairwise (le := (· < ·)) (fun a b _ _ h3 h4 => absurd (List.lt_trans h3 h4) (List.lt_irrefl _)) h1 h2 ((List.perm_ext_iff_of_nodup n1 n2).2 h)
end Go.Proofs.YtpadimnchmghpaaGreatDoor.Av
