/- TracePrints. -/
import Derived.Test.YtalobodhbbkgdabDoorPTr1
import Derived.Test.YtalobodhbbkgdabDoorR5
set_option linter.unusedVariables false
set_option linter.unusedSimpArgs false
namespace Go.Proofs.YtalobodhbbkgdabDoor.Av
theorem rplain_eq (x : UInt8) : tollwayref01_plain (x.toNat : Int) = some (plB x) := plain_eq x
theorem cutK {α : Type} {l : List α} {k : Nat} {x : α} (h : l[k]? = some x) : List.drop k (List.take (k + 1) l) = [x] := by
  have hlt : k < l.length := by
    rcases Nat.lt_or_ge k l.length with h1 | h1
    · exact h1
    · rw [List.getElem?_eq_none h1] at h; cases h
  rw [List.getElem?_eq_getElem hlt] at h
  simp only [Option.some.injEq] at h
  rw [List.drop_take, show k + 1 - k = 1 by omega, List.drop_eq_getElem_cons hlt, h]
  rfl
theorem rescape_eq (s : List UInt8) (h : s.length ≤ 1000) : tollwayref01_Escape s = some (esc s) := by
  unfold tollwayref01_Escape esc
  by_cases h0 : s = []
  · rw [if_pos h0, if_pos h0]
  · rw [if_neg h0, if_neg h0]
    have key := lp_flat (l := s) (mk := fun a k => (a, k)) (step := tollwayref01_Escape_L2_step s) (g := escB) (out := fun a => a) 0 3 (fun x _ => escB_len x) ?_ ?_ s.length 0 [] (by omega) (by simp)
    · refine bind_i key.1 ?_
      simp
    · intro k x a hx hm hk ha
      unfold tollwayref01_Escape_L2_step
      have hlt := x.toNat_lt
      refine ite_t (by omega) (bind_i hx (bind_i (rplain_eq x) ?_))
      unfold escB
      by_cases hp : plB x = true
      · rw [if_pos hp, if_pos hp]
        have e : Int.toNat ((k : Int) + 1) = k + 1 := by omega
        rw [e, cutK hx]
        exact guard_i (inR_i64.2 (by omega)) (guard_i (by omega) (guard_i (by omega) (guard_i (by omega) (guard_i (by simp; omega) rfl))))
      · rw [if_neg hp, if_neg hp, div16, mod16]
        have d1 : x.toNat / 16 < 16 := by omega
        have d2 : x.toNat % 16 < 16 := by omega
        generalize x.toNat / 16 = q at d1 ⊢
        generalize x.toNat % 16 = r at d2 ⊢
        have e1 : Int.toNat ((q : Int) + 1) = q + 1 := by omega
        have e2 : Int.toNat ((r : Int) + 1) = r + 1 := by omega
        rw [e1, e2, Int.toNat_natCast, Int.toNat_natCast, cutK (hexT_get d1), cutK (hexT_get d2)]
        refine guard_i (inR_u8.2 (by omega)) (guard_i (inR_i64.2 (by omega)) (guard_i (inR_i64.2 (by omega)) (guard_i (by simp; omega) (guard_i (inR_i64.2 (by omega)) (guard_i (by omega) (guard_i (by omega) (guard_i (by omega) (guard_i (by omega) (bind_i rfl (guard_i (by simp; omega) (guard_i (inR_i64.2 (by omega)) (guard_i (by omega) (guard_i (by omega) (guard_i (by omega) (guard_i (by omega) (bind_i rfl (guard_i (by simp; omega) (guard_i (inR_i64.2 (by omega)) ?_))))))))))))))))))
        simp
    · intro a ha
      unfold tollwayref01_Escape_L2_step
      exact ite_f (by omega) rfl
theorem rwhy_eq (w : Int) : tollwayref52_Why w = some (whyR w) := (why_eq w).1
theorem rprint_eq (l : List Tapi_Fact) (h : smallF l) : tollwayref52_Print l = some (l.flatMap lineF) := by
  unfold tollwayref52_Print
  have key := lp_flat (l := l) (mk := fun a k => (a, k)) (step := tollwayref52_Print_L1_step l) (g := lineF) (out := fun a => a) 0 1300 (fun x hx => lineF_len (h.2 x hx)) ?_ ?_ l.length 0 [] (by omega) (by simp)
  · refine bind_i key.1 ?_
    simp
  · intro k x a hx hm hk ha
    have hh := h.2 x hm
    have he := esc_len x.Key
    obtain ⟨-, hw2⟩ := why_eq x.Why
    have hl := h.1
    unfold tollwayref52_Print_L1_step lineF
    refine ite_t (by omega) (bind_i hx (guard_i (by omega) (guard_i (by simp; omega) (bind_i (rescape_eq _ (by omega)) (guard_i (by simp; omega) ?_)))))
    by_cases h0 : x.Why = 0
    · rw [if_pos h0, if_pos h0]
      refine guard_i (by simp; omega) (bind_i rfl (guard_i (inR_i64.2 (by omega)) ?_))
      simp
    · rw [if_neg h0, if_neg h0]
      refine guard_i (by simp; omega) (bind_i rfl (bind_i (rwhy_eq _) (guard_i (by simp; omega) (guard_i (by simp; omega) (guard_i (inR_i64.2 (by omega)) ?_)))))
      simp
  · intro a ha
    unfold tollwayref52_Print_L1_step
    exact ite_f (by omega) rfl
theorem tollwaylaw52_TracePrints_true (l : List Tapi_Fact) (why : Int) {p q : Prop} (_ : p) (_ : q) : tollwaylaw52_TracePrints l why = some true := by
  unfold tollwaylaw52_TracePrints
  by_cases h1 : (l.length : Int) > 100
  · exact ite_t h1 (bind_i trace_awake_true rfl)
  · refine ite_f h1 ?_
    have key := lp_foldE0 (l := l) (mk := fun (_ : Unit) k => k) (step := tollwaylaw52_TracePrints_L4_step l why)
      (g := fun _ x => if x.Kind.length > 300 ∨ x.Key.length > 300 then Sum.inl (Sum.inl true) else Sum.inr ()) (out := fun _ => Sum.inr ()) (fun k _ => True) ?_ ?_ (a := ()) trivial
    · have fin : (∃ x ∈ l, x.Kind.length > 300 ∨ x.Key.length > 300) ∧ foldE (fun (_ : Unit) (x : Tapi_Fact) => if x.Kind.length > 300 ∨ x.Key.length > 300 then (Sum.inl (Sum.inl true) : (Bool ⊕ Unit) ⊕ Unit) else Sum.inr ()) (fun _ => Sum.inr ()) l () = Sum.inl true ∨
        (∀ x ∈ l, x.Kind.length ≤ 300 ∧ x.Key.length ≤ 300) ∧ foldE (fun (_ : Unit) (x : Tapi_Fact) => if x.Kind.length > 300 ∨ x.Key.length > 300 then (Sum.inl (Sum.inl true) : (Bool ⊕ Unit) ⊕ Unit) else Sum.inr ()) (fun _ => Sum.inr ()) l () = Sum.inr () := by
        clear key h1
        induction l with
        | nil => right; exact ⟨by simp, rfl⟩
        | cons x t ih =>
          unfold foldE
          by_cases hx : x.Kind.length > 300 ∨ x.Key.length > 300
          · left
            rw [if_pos hx]
            exact ⟨⟨x, by simp, hx⟩, rfl⟩
          · rw [if_neg hx]
            rcases ih with ⟨⟨y, hy, h2⟩, h3⟩ | ⟨h2, h3⟩
            · left; exact ⟨⟨y, by simp [hy], h2⟩, h3⟩
            · right
              refine ⟨fun y hy => ?_, h3⟩
              rcases List.mem_cons.1 hy with rfl | hy
              · omega
              · exact h2 y hy
      refine bind_i key ?_
      rcases fin with ⟨-, h2⟩ | ⟨h2, h3⟩
      · rw [h2]
      · rw [h3]
        have hs : smallF l := ⟨by omega, h2⟩
        exact bind_i (print_eq l hs) (bind_i (rprint_eq l hs) (ite_t rfl (bind_i (why_eq why).1 (bind_i (rwhy_eq why) (ite_t rfl (bind_i trace_awake_true rfl))))))
    · intro k x a hx _
      refine ⟨?_, fun _ _ => trivial⟩
      have hk := get_lt hx
      unfold tollwaylaw52_TracePrints_L4_step
      refine ite_t (by omega) (bind_i hx ?_)
      by_cases c1 : (x.Kind.length : Int) > 300
      · refine ite_t c1 (bind_i trace_awake_true ?_)
        rw [if_pos (by left; omega)]
      · refine ite_f c1 ?_
        by_cases c2 : (x.Key.length : Int) > 300
        · refine ite_t c2 (bind_i trace_awake_true ?_)
          rw [if_pos (by right; omega)]
        · refine ite_f c2 (guard_i (inR_i64.2 (by omega)) ?_)
          rw [if_neg (by omega)]
    · intro a _
      unfold tollwaylaw52_TracePrints_L4_step
      exact ite_f (by omega) rfl
end Go.Proofs.YtalobodhbbkgdabDoor.Av
