/- What money's sums come to. -/
import Derived.Test.YteljonodbkkckabDoorMO
import Derived.Test.YteljonodbkkckabDoorAvPl
import Derived.Test.YteljonodbkkckabDoorAvZ
set_option linter.unusedVariables false
namespace Go.Proofs.YteljonodbkkckabDoor.Av
open Go Go.Proofs
def fit (n : Int) : Bool := decide (-1125899906842624 ≤ n) && decide (n ≤ 1125899906842624)
theorem fit_iff {n : Int} : fit n = true ↔ -1125899906842624 ≤ n ∧ n ≤ 1125899906842624 := by simp [fit]
def addR (a b : Int) : Int × Int := if fit a && fit b && fit (a + b) then (a + b, 0) else (0, 13)
def sumR (l : List Int) : Int × Int := if l.length > 1024 then (0, 3) else if l.all fit && fit l.sum then (l.sum, 0) else (0, 13)
theorem fits_eq (n : Int) : money_Fits n = some (fit n) := by
  unfold money_Fits fit
  by_cases h : n ≥ -1125899906842624
  · rw [if_pos h]; simp [show -1125899906842624 ≤ n from h]
  · rw [if_neg h]; simp [show ¬ -1125899906842624 ≤ n from h]
theorem total_eq (l : List Int) (hn : l.length ≤ 2000) (hf : ∀ x ∈ l, -1125899906842624 ≤ x ∧ x ≤ 1125899906842624) : money_total l = some l.sum := by
  unfold money_total
  have hlp : lp (money_total_L1_step l) ((0 : Int), (0 : Nat)) = some (l.foldl (fun a x => a + x) 0) := by
    refine lp_foldl (l := l) (mk := fun (a : Int) k => (a, k)) (g := fun a x => a + x) (out := fun a => a) (fun k a => -1125899906842624 * (k : Int) ≤ a ∧ a ≤ 1125899906842624 * (k : Int)) (fun k x a hx ha => ⟨?_, ?_⟩) (fun a ha => ?_) ⟨by simp, by simp⟩
    · have hk := get_lt hx
      have := hf x (List.mem_of_getElem? hx)
      unfold money_total_L1_step
      exact ite_t (by omega) (bind_i hx (guard_i (inR_i64.2 (by omega)) (guard_i (inR_i64.2 (by omega)) rfl)))
    · have := hf x (List.mem_of_getElem? hx)
      constructor <;> (simp only [Int.natCast_add]; omega)
    · unfold money_total_L1_step
      exact ite_f (by omega) rfl
  have hs : ∀ (l : List Int) (a : Int), l.foldl (fun a x => a + x) a = a + l.sum := fun l => by
    induction l with
    | nil => intro a; simp
    | cons x l ih => intro a; rw [List.foldl_cons, ih, List.sum_cons]; omega
  rw [hlp, Option.bind_some, hs]
  congr 1; omega
theorem sum_eq (l : List Int) : money_Sum l = some (sumR l) := by
  unfold money_Sum sumR
  by_cases hl : l.length > 1024
  · rw [if_pos (by omega), if_pos hl]
  rw [if_neg (by omega), if_neg hl]
  have hlp : lp (money_Sum_L2_step l) (0 : Nat) = some (foldE (fun (_ : Unit) x => if fit x then .inr () else .inl (.inl ())) (fun _ => .inr ()) l ()) :=
    lp_foldE0 (mk := fun (_ : Unit) k => k) (fun _ _ => True) (fun k x a hx _ => ⟨by
      have hk := get_lt hx
      unfold money_Sum_L2_step
      refine ite_t (by omega) (bind_i hx (bind_i (fits_eq x) ?_))
      cases hf : fit x with
      | true => exact ite_t rfl (guard_i (inR_i64.2 (by omega)) rfl)
      | false => exact ite_f (by simp) rfl, fun _ _ => trivial⟩) (fun a _ => by
      unfold money_Sum_L2_step
      exact ite_f (by omega) rfl) trivial
  have hfe : ∀ l : List Int, foldE (fun (_ : Unit) x => if fit x then .inr () else .inl (.inl ())) (fun _ => .inr ()) l () = if l.all fit then (Sum.inr () : Unit ⊕ Unit) else .inl () := fun l => by
    induction l with
    | nil => rfl
    | cons x l ih =>
      unfold foldE
      cases hx : fit x with
      | true => simp only [if_true, List.all_cons, hx, Bool.true_and]; exact ih
      | false => simp [hx]
  rw [hlp, hfe]
  cases ha : l.all fit with
  | false => simp
  | true =>
    rw [List.all_eq_true] at ha
    simp only [if_true, Option.bind_some, Bool.true_and]
    rw [total_eq l (by omega) (fun x hx => fit_iff.1 (ha x hx)), Option.bind_some, fits_eq, Option.bind_some]
    cases hs : fit l.sum <;> simp
theorem add_eq (a b : Int) : money_Add a b = some (addR a b) := by
  unfold money_Add addR
  rw [fits_eq, Option.bind_some]
  cases ha : fit a with
  | false => simp
  | true =>
    rw [if_pos rfl, fits_eq, Option.bind_some]
    cases hb : fit b with
    | false => simp
    | true =>
      have ht : money_total ([a, b] : List Int) = some (a + b) := by
        rw [total_eq [a, b] (by simp) (fun x hx => by simp at hx; rcases hx with rfl | rfl; exact fit_iff.1 ha; exact fit_iff.1 hb)]
        simp
      rw [if_pos rfl, ht, Option.bind_some, fits_eq, Option.bind_some]
      cases hc : fit (a + b) <;> simp
theorem sumR_two (a b : Int) : sumR [a, b] = addR a b := by
  unfold sumR addR
  have e : ([a, b] : List Int).sum = a + b := by simp
  rw [e]
  cases ha : fit a <;> cases hb : fit b <;> simp [ha, hb]
theorem sumR_turn (l : List Int) (k : Nat) : sumR (l.drop k ++ l.take k) = sumR l := by
  unfold sumR
  have h1 : (l.drop k ++ l.take k).length = l.length := by simp; omega
  have h2 : (l.drop k ++ l.take k).sum = l.sum := by
    conv => rhs; rw [← List.take_append_drop k l]
    rw [List.sum_append, List.sum_append]; omega
  have h3 : (l.drop k ++ l.take k).all fit = l.all fit := by
    conv => rhs; rw [← List.take_append_drop k l]
    rw [List.all_append, List.all_append, Bool.and_comm]
  rw [h1, h2, h3]
theorem tollwaylaw03_MoneyOrders_true (l : List Int) (turn : Int) (_ : lwf (InR .i64) l) (_ : InR .i64 turn) : tollwaylaw03_MoneyOrders l turn = some true := by
  unfold tollwaylaw03_MoneyOrders
  have hawake : awakeF = some true := rfl
  by_cases h0 : (↑l.length : Int) = 0
  · exact ite_t h0 (bind_i hawake rfl)
  refine ite_f h0 ?_
  by_cases h1 : (↑l.length : Int) > 1100
  · exact ite_t h1 (bind_i hawake rfl)
  refine ite_f h1 ?_
  by_cases h2 : turn < 0
  · exact ite_t h2 (bind_i hawake rfl)
  refine ite_f h2 ?_
  by_cases h3 : turn ≥ (↑l.length : Int)
  · exact ite_t h3 (bind_i hawake rfl)
  refine ite_f h3 ?_
  have hk : turn.toNat < l.length := by omega
  refine guard_i (by omega) (guard_i (by omega) (guard_i (by simp; omega) (guard_i (by simp; omega) ?_)))
  refine bind_i (sum_eq _) (bind_i (sum_eq _) (bind_i (List.getElem?_eq_getElem (by omega : 0 < l.length)) (bind_i (List.getElem?_eq_getElem hk) (bind_i (add_eq _ _) (bind_i (sum_eq _) ?_)))))
  rw [sumR_turn, sumR_two]
  exact ite_t rfl (ite_t rfl (ite_t rfl (ite_t rfl (bind_i hawake rfl))))
end Go.Proofs.YteljonodbkkckabDoor.Av
