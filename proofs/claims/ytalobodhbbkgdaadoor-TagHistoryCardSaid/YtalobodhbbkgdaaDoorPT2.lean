/- Transponder numbers: their parts, the order of states, lists and states at a time. -/
import Derived.Test.YtalobodhbbkgdaaDoorPT1
import Derived.Sort.Walk0
set_option linter.unusedVariables false
set_option linter.unusedSimpArgs false
set_option maxHeartbeats 1000000
namespace Go.Proofs.YtalobodhbbkgdaaDoor.Av
open Go Go.Proofs
theorem agency_eq (s : List UInt8) : tag_Agency s = some (if chk s = 0 then (s.take 3, 0) else ([], 18)) := by
  unfold tag_Agency
  rw [check_eq, Option.bind_some]
  rcases chk_or s with h | h
  · have := (chk_zero h).2.1
    rw [h, if_pos rfl, if_pos (by omega), if_pos rfl]
  · rw [h]; rfl
theorem ragency_eq (s : List UInt8) : tollwayref11_Agency s = some (if chk s = 0 then (s.take 3, 0) else ([], 18)) := by
  unfold tollwayref11_Agency
  rw [rcheck_eq, Option.bind_some]
  rcases chk_or s with h | h
  · have := (chk_zero h).2.1
    rw [h, if_pos rfl, if_pos (by omega), if_pos rfl]
  · rw [h]; rfl
/-- the number that digits denote -/
def nmN (l : List UInt8) : Nat := l.foldl (fun v c => 10 * v + (c.toNat - 48)) 0
theorem nmN_snoc (l : List UInt8) (c : UInt8) : nmN (l ++ [c]) = 10 * nmN l + (c.toNat - 48) := by simp [nmN, List.foldl_append]
theorem nmN_fold (l : List UInt8) : ∀ a : Nat, (∀ c ∈ l, dg c = true) → l.foldl (fun v c => 10 * v + (c.toNat - 48)) a < (a + 1) * 10 ^ l.length := by
  induction l with
  | nil => intro a _; simp
  | cons c l ih =>
    intro a h
    have h1 := dg_iff.1 (h c List.mem_cons_self)
    have h2 := ih (10 * a + (c.toNat - 48)) (fun x hx => h x (List.mem_cons_of_mem _ hx))
    simp only [List.foldl_cons, List.length_cons]
    have h3 : (10 * a + (c.toNat - 48) + 1) * 10 ^ l.length ≤ (a + 1) * 10 * 10 ^ l.length := Nat.mul_le_mul_right _ (by omega)
    rw [Nat.pow_succ, Nat.mul_comm (10 ^ l.length) 10, ← Nat.mul_assoc]
    omega
theorem nmN_lt (l : List UInt8) (h : ∀ c ∈ l, dg c = true) (hl : l.length ≤ 8) : nmN l < 100000000 := by
  have := nmN_fold l 0 h
  have h2 : 10 ^ l.length ≤ 10 ^ 8 := Nat.pow_le_pow_right (by decide) hl
  unfold nmN
  rw [Nat.zero_add, Nat.one_mul] at this
  have : (10 : Nat) ^ 8 = 100000000 := by decide
  omega
theorem nmN_take (l : List UInt8) (k : Nat) (c : UInt8) (h : l[k]? = some c) : nmN (l.take (k + 1)) = 10 * nmN (l.take k) + (c.toNat - 48) := by
  rw [List.take_add_one, h, Option.toList_some, nmN_snoc]
theorem serial_loop (s : List UInt8) (hd : ∀ c ∈ s.take 11 |>.drop 3, dg c = true) (hl : ((s.take 11).drop 3).length ≤ 8) : lp (tag_Serial_L6_step s) (0, 0) = some (nmN ((s.take 11).drop 3) : Int) := by
  refine lp_invE (fun p : Int × Nat => p.2 ≤ ((s.take 11).drop 3).length ∧ p.1 = nmN (((s.take 11).drop 3).take p.2)) (fun p => ((s.take 11).drop 3).length - p.2) _ ?_ (0, 0) ⟨Nat.zero_le _, rfl⟩
  rintro ⟨v, k⟩ ⟨h1, h2⟩
  dsimp only at h1 h2
  unfold tag_Serial_L6_step
  dsimp only
  generalize List.drop 3 (List.take 11 s) = t at *
  by_cases hk : k < t.length
  · have hx : t[k]? = some t[k] := List.getElem?_eq_getElem hk
    have hc := dg_iff.1 (hd _ (List.getElem_mem hk))
    have hb := nmN_lt (t.take k) (fun c hc => hd c (List.mem_of_mem_take hc)) (by rw [List.length_take]; omega)
    have ht := nmN_take t k _ hx
    rw [if_pos hk, dec_ascii t k hk (by omega), Option.bind_some]
    dsimp only
    rw [if_pos (inR_i64.2 (by omega)), if_pos (inR_i32.2 (by omega)), if_pos (inR_i64.2 (by omega)), if_pos (inR_i64.2 (by omega))]
    exact .inl ⟨_, rfl, ⟨hk, by dsimp only; omega⟩, by dsimp only; omega⟩
  · rw [if_neg hk]
    rw [List.take_of_length_le (by omega)] at h2
    exact .inr (by rw [h2])
theorem number_eq (t : List UInt8) (hd : ∀ c ∈ t, dg c = true) (hl : t.length ≤ 8) : tollwayref11_number t = some (nmN t : Int) := by
  unfold tollwayref11_number
  rw [lp_invE (step := tollwayref11_number_L1_step t) (fun p : Int × Nat => p.2 ≤ t.length ∧ p.1 = nmN (t.take p.2)) (fun p => t.length - p.2) (nmN t : Int) ?_ (0, 0) ⟨Nat.zero_le _, rfl⟩]; rfl
  rintro ⟨v, k⟩ ⟨h1, h2⟩
  dsimp only at h1 h2
  unfold tollwayref11_number_L1_step
  dsimp only
  by_cases hk : k < t.length
  · have hx : t[k]? = some t[k] := List.getElem?_eq_getElem hk
    have hc := dg_iff.1 (hd _ (List.getElem_mem hk))
    have hb := nmN_lt (t.take k) (fun c hc => hd c (List.mem_of_mem_take hc)) (by rw [List.length_take]; omega)
    have ht := nmN_take t k _ hx
    rw [if_pos (by omega), if_pos (inR_i64.2 (by omega)), hx, Option.bind_some, if_pos (inR_u8.2 (by omega)), if_pos (inR_i64.2 (by omega)), if_pos (inR_i64.2 (by omega)), if_pos (inR_i64.2 (by omega))]
    exact .inl ⟨_, rfl, ⟨hk, by dsimp only; omega⟩, by dsimp only; omega⟩
  · rw [if_neg (by omega)]
    rw [List.take_of_length_le (by omega)] at h2
    exact .inr (by rw [h2])
theorem serial_eq (s : List UInt8) : tag_Serial s = some (if chk s = 0 then ((nmN ((s.take 11).drop 3) : Int), 0) else (0, 18)) := by
  unfold tag_Serial
  rw [check_eq, Option.bind_some]
  rcases chk_or s with h | h
  · obtain ⟨h1, h2, _⟩ := chk_zero h
    rw [h, if_pos rfl, if_pos (by omega), if_pos (by omega), if_pos rfl, serial_loop s (fun c hc => h1 c (List.mem_of_mem_take (List.mem_of_mem_drop hc))) (by simp; omega)]; rfl
  · rw [h]; rfl
theorem rserial_eq (s : List UInt8) : tollwayref11_Serial s = some (if chk s = 0 then ((nmN ((s.take 11).drop 3) : Int), 0) else (0, 18)) := by
  unfold tollwayref11_Serial
  rw [rcheck_eq, Option.bind_some]
  rcases chk_or s with h | h
  · obtain ⟨h1, h2, _⟩ := chk_zero h
    rw [h, if_pos rfl, if_pos (by omega), if_pos (by omega), if_pos rfl, number_eq _ (fun c hc => h1 c (List.mem_of_mem_take (List.mem_of_mem_drop hc))) (by simp; omega)]; rfl
  · rw [h]; rfl
theorem cb_all : ∀ (a b : List UInt8), (Go.Lib.compareBytes a b = 0 ∧ a = b) ∨ (Go.Lib.compareBytes a b = -1 ∧ a ≠ b ∧ Op.bytesLess b a = false) ∨ (Go.Lib.compareBytes a b = 1 ∧ a ≠ b ∧ Op.bytesLess b a = true)
  | [], [] => .inl ⟨rfl, rfl⟩
  | [], b :: l => .inr (.inl ⟨rfl, by simp, rfl⟩)
  | a :: l, [] => .inr (.inr ⟨rfl, by simp, rfl⟩)
  | a :: x, b :: y => by
    unfold Go.Lib.compareBytes Op.bytesLess
    by_cases h1 : a < b
    · have h2 : ¬ b < a := by rw [UInt8.lt_iff_toNat_lt] at *; omega
      have h3 : a ≠ b := by rintro rfl; rw [UInt8.lt_iff_toNat_lt] at h1; omega
      rw [if_pos h1]
      refine .inr (.inl ⟨rfl, fun h => h3 (List.cons.inj h).1, ?_⟩)
      simp [h2, Ne.symm h3]
    · rw [if_neg h1]
      by_cases h2 : b < a
      · rw [if_pos h2]
        have h3 : a ≠ b := by rintro rfl; exact h1 h2
        exact .inr (.inr ⟨rfl, fun h => h3 (List.cons.inj h).1, by simp [h2]⟩)
      · rw [if_neg h2]
        have h3 : a = b := by
          apply UInt8.toNat_inj.1
          rw [UInt8.lt_iff_toNat_lt] at h1 h2; omega
        subst h3
        rcases cb_all x y with ⟨h, rfl⟩ | ⟨h, h4, h5⟩ | ⟨h, h4, h5⟩
        · exact .inl ⟨h, rfl⟩
        · exact .inr (.inl ⟨h, fun e => h4 (List.cons.inj e).2, by simp [h2, h5]⟩)
        · exact .inr (.inr ⟨h, fun e => h4 (List.cons.inj e).2, by simp [h5]⟩)
/-- how two states compare -/
def cmpT (a b : Tapi_TagState) : Int := if Go.Lib.compareBytes a.Tag b.Tag = 0 then (if a.From < b.From then -1 else if a.From > b.From then 1 else 0) else Go.Lib.compareBytes a.Tag b.Tag
theorem compare_eq (a b : Tapi_TagState) : tag_compare a b = some (cmpT a b) := by
  unfold tag_compare cmpF cmpT
  rw [Option.bind_some, if_pos rfl, if_pos rfl]
  by_cases h1 : a.From < b.From
  · rw [if_pos h1, if_pos h1]; split <;> rfl
  · rw [if_neg h1, if_neg h1]
    by_cases h2 : a.From > b.From
    · rw [if_pos h2, if_pos h2]; split <;> rfl
    · rw [if_neg h2, if_neg h2]; split <;> rfl
theorem after_eq (x p : Tapi_TagState) : tollwayref11_after x p = some (decide (cmpT p x < 0)) := by
  unfold tollwayref11_after cmpT
  rcases cb_all p.Tag x.Tag with ⟨h, e⟩ | ⟨h, e, l⟩ | ⟨h, e, l⟩
  · rw [if_pos e.symm, if_pos h]
    by_cases h1 : p.From < x.From
    · rw [if_pos h1]; simp [h1]
    · rw [if_neg h1]
      by_cases h2 : p.From > x.From
      · rw [if_pos h2]; simp; omega
      · rw [if_neg h2]; simp; omega
  · rw [if_neg (Ne.symm e), h, if_neg (by decide), l]
    simp [Ne.symm e]
  · rw [if_neg (Ne.symm e), h, if_neg (by decide), l]
    rfl
theorem ifc {α : Type} {c : Prop} [Decidable c] {a a' b b' : α} (h1 : a = a') (h2 : b = b') : (if c then a else b) = (if c then a' else b') := by rw [h1, h2]
theorem checkAll_step (l : List Tapi_TagState) : tag_CheckAll_L2_step l = tollwayref11_CheckAll_L2_step l := by
  funext k
  unfold tag_CheckAll_L2_step tollwayref11_CheckAll_L2_step
  refine ifc ?_ rfl
  cases l[k]? with
  | none => rfl
  | some x =>
    rw [Option.bind_some, Option.bind_some, check_eq, rcheck_eq, Option.bind_some, Option.bind_some]
    rcases chk_or x.Tag with h | h
    · rw [h, if_pos rfl, if_pos rfl]
      refine ifc rfl (ifc rfl (ifc rfl (ifc rfl (ifc (ifc (ifc ?_ rfl) rfl) rfl))))
      cases l[(Int.toNat ((↑k : Int) - 1))]? with
      | none => rfl
      | some p =>
        rw [Option.bind_some, Option.bind_some, compare_eq, after_eq, Option.bind_some, Option.bind_some]
        by_cases hc : cmpT p x < 0
        · rw [if_neg (show ¬ cmpT p x ≥ 0 by omega), if_pos (show decide (cmpT p x < 0) = true from decide_eq_true hc)]
        · rw [if_pos (show cmpT p x ≥ 0 by omega), if_neg (show ¬ decide (cmpT p x < 0) = true by simpa using hc)]
    · rw [h]; rfl
theorem checkAll_eq (l : List Tapi_TagState) : tag_CheckAll l = tollwayref11_CheckAll l := by
  unfold tag_CheckAll tollwayref11_CheckAll
  rw [checkAll_step]; rfl
/-- the state at a time -/
def stt (l : List Tapi_TagState) (s : List UInt8) (t : Int) : Int := l.foldl (fun v x => if x.Tag = s ∧ x.From ≤ t then x.State else v) 1
theorem stt_take (l : List Tapi_TagState) (s : List UInt8) (t : Int) (k : Nat) (x : Tapi_TagState) (h : l[k]? = some x) : stt (l.take (k + 1)) s t = if x.Tag = s ∧ x.From ≤ t then x.State else stt (l.take k) s t := by
  rw [List.take_add_one, h, Option.toList_some]
  simp [stt, List.foldl_append]
theorem state_eq (l : List Tapi_TagState) (s : List UInt8) (t : Int) (hl : l.length ≤ 100000) : tag_State l s t = some (if chk s = 0 then stt l s t else 0) := by
  unfold tag_State
  rw [check_eq, Option.bind_some]
  rcases chk_or s with h | h
  · rw [h, if_pos rfl, if_pos rfl, lp_invE (step := tag_State_L4_step l s t) (fun p : Int × Nat => p.2 ≤ l.length ∧ p.1 = stt (l.take p.2) s t) (fun p => l.length - p.2) (stt l s t) ?_ (1, 0) ⟨Nat.zero_le _, rfl⟩]; rfl
    rintro ⟨v, k⟩ ⟨h1, h2⟩
    dsimp only at h1 h2
    unfold tag_State_L4_step
    dsimp only
    by_cases hk : k < l.length
    · obtain ⟨x, hx⟩ : ∃ x, l[k]? = some x := ⟨_, List.getElem?_eq_getElem hk⟩
      have ht := stt_take l s t k x hx
      have hi : InR .i64 ((k : Int) + 1) := inR_i64.2 (by omega)
      rw [if_pos (by omega), hx, Option.bind_some, if_pos hi, if_pos hi]
      by_cases h3 : x.Tag = s
      · rw [if_pos h3]
        by_cases h4 : x.From ≤ t
        · rw [if_pos h4]
          rw [if_pos ⟨h3, h4⟩] at ht
          exact .inl ⟨_, rfl, ⟨hk, by dsimp only; omega⟩, by dsimp only; omega⟩
        · rw [if_neg h4]
          rw [if_neg (fun h => h4 h.2)] at ht
          exact .inl ⟨_, rfl, ⟨hk, by dsimp only; omega⟩, by dsimp only; omega⟩
      · rw [if_neg h3]
        rw [if_neg (fun h => h3 h.1)] at ht
        exact .inl ⟨_, rfl, ⟨hk, by dsimp only; omega⟩, by dsimp only; omega⟩
    · rw [if_neg (by omega)]
      rw [List.take_of_length_le (by omega)] at h2
      exact .inr (by rw [h2])
  · rw [h]; rfl
theorem rstate_eq (l : List Tapi_TagState) (s : List UInt8) (t : Int) : tollwayref11_State l s t = tag_State l s t := by
  unfold tollwayref11_State tag_State
  rw [check_eq, rcheck_eq]; rfl
end Go.Proofs.YtalobodhbbkgdaaDoor.Av
