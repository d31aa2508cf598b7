/- Trace: the first element that fits; keys, charges and passages by their names. -/
import Derived.Test.YtalobodhbbkgdabDoorPTr1
import Derived.Test.YtalobodhbbkgdabDoorQ4
import Derived.Test.YtalobodhbbkgdabDoorQ2
import Derived.Test.YtalobodhbbkgdabDoorAvYW
set_option linter.unusedVariables false
set_option linter.unusedSimpArgs false
namespace Go.Proofs.YtalobodhbbkgdabDoor.Av
/-! ### the first element that fits -/
def fidx {α : Type} (p : α → Bool) : List α → Nat → Option Nat
  | [], _ => none
  | x :: l, k => if p x = true then some k else fidx p l (k + 1)
theorem fidx_some {α : Type} {p : α → Bool} : ∀ {l : List α} {k i : Nat}, fidx p l k = some i → k ≤ i ∧ ∃ x, l[i - k]? = some x ∧ p x = true
  | [], k, i, h => by cases h
  | x :: l, k, i, h => by
    unfold fidx at h
    by_cases hp : p x = true
    · rw [if_pos hp] at h
      obtain rfl := Option.some.inj h
      exact ⟨Nat.le_refl _, x, by simp, hp⟩
    · rw [if_neg hp] at h
      obtain ⟨h1, y, h2, h3⟩ := fidx_some h
      refine ⟨by omega, y, ?_, h3⟩
      rw [show i - k = (i - (k + 1)) + 1 by omega]
      simpa using h2
theorem fidx_any {α : Type} {p : α → Bool} : ∀ (l : List α) (k : Nat), (fidx p l k).isSome = l.any p
  | [], k => rfl
  | x :: l, k => by
    unfold fidx
    by_cases hp : p x = true
    · simp [hp]
    · rw [if_neg hp, fidx_any l]; simp [hp]
theorem lp_find {α ρ : Type} {l : List α} {step : Nat → Option (Nat ⊕ (ρ ⊕ Unit))} (p : α → Bool) (f : Nat → ρ)
    (hs : ∀ k x, l[k]? = some x → k < l.length → step k = some (if p x = true then .inr (.inl (f k)) else .inl (k + 1)))
    (he : step l.length = some (.inr (.inr ()))) : ∀ m k, k + m = l.length → lp step k = some (match fidx p (l.drop k) k with | some i => .inl (f i) | none => .inr ())
  | 0, k, hk => by
    have hk : k = l.length := by omega
    subst hk
    rw [lp_end he, List.drop_length]; rfl
  | m + 1, k, hk => by
    have hlt : k < l.length := by omega
    have h1 := hs k l[k] (List.getElem?_eq_getElem hlt) hlt
    rw [List.drop_eq_getElem_cons hlt]
    unfold fidx
    by_cases hp : p l[k] = true
    · rw [if_pos hp] at h1 ⊢
      exact lp_end h1
    · rw [if_neg hp] at h1 ⊢
      rw [lp_go h1]
      exact lp_find p f hs he m (k + 1) (by omega)
theorem lp_find0 {α ρ : Type} {l : List α} {step : Nat → Option (Nat ⊕ (ρ ⊕ Unit))} (p : α → Bool) (f : Nat → ρ)
    (hs : ∀ k x, l[k]? = some x → k < l.length → step k = some (if p x = true then .inr (.inl (f k)) else .inl (k + 1)))
    (he : step l.length = some (.inr (.inr ()))) : lp step 0 = some (match fidx p l 0 with | some i => .inl (f i) | none => .inr ()) := by
  have := lp_find p f hs he l.length 0 (by omega)
  simpa using this
/-! ### great -/
structure Fits (s : Tapi_State) : Prop where
  seen : s.Seen.length ≤ 120
  rej : s.Rejects.length ≤ 120
  pas : s.Result.Passages.length ≤ 120
  rrej : s.Result.Rejects.length ≤ 120
  trips : s.Result.Trips.length ≤ 120
  stays : s.Result.Stays.length ≤ 120
  chg : s.Result.Charges.length ≤ 120
  exc : s.Result.Exclusions.length ≤ 120
  done : s.Books.Done.length ≤ 120
  acc : s.Config.Accounts.length ≤ 30
  src : ∀ p ∈ s.Result.Passages, p.Sources.length ≤ 40
  stops : ∀ t ∈ s.Result.Trips, t.Stops.length ≤ 40
  lines : ∀ c ∈ s.Result.Charges, c.Lines.length ≤ 40
  own : ∀ a ∈ s.Config.Accounts, a.Owned.length ≤ 80
theorem lp_big {α : Type} {l : List α} {step : Nat → Option (Nat ⊕ (Unit ⊕ Unit))} (f : α → Nat) (b : Nat)
    (hs : ∀ k x, l[k]? = some x → k < l.length → step k = some (if decide (f x > b) = true then .inr (.inl ()) else .inl (k + 1)))
    (he : step l.length = some (.inr (.inr ()))) : lp step 0 = some (.inl ()) ∨ lp step 0 = some (.inr ()) ∧ ∀ x ∈ l, f x ≤ b := by
  rw [lp_find0 (fun x => decide (f x > b)) (fun _ => ()) hs he]
  cases h : fidx (fun x => decide (f x > b)) l 0 with
  | some i => left; rfl
  | none =>
    right
    refine ⟨rfl, ?_⟩
    have := fidx_any (p := fun x => decide (f x > b)) l 0
    rw [h] at this
    have h2 : l.any (fun x => decide (f x > b)) = false := this.symm
    rw [List.any_eq_false] at h2
    intro x hx
    have := h2 x hx
    simp only [decide_eq_true_eq] at this
    omega
theorem great_eq (s : Tapi_State) : tollwaylaw52_great s = some true ∨ tollwaylaw52_great s = some false ∧ Fits s := by
  unfold tollwaylaw52_great
  by_cases h1 : (s.Seen.length : Int) > 120
  · left; rw [if_pos h1]
  by_cases h2 : (s.Rejects.length : Int) > 120
  · left; rw [if_neg h1, if_pos h2]
  by_cases h3 : (s.Result.Passages.length : Int) > 120
  · left; rw [if_neg h1, if_neg h2, if_pos h3]
  by_cases h4 : (s.Result.Rejects.length : Int) > 120
  · left; rw [if_neg h1, if_neg h2, if_neg h3, if_pos h4]
  by_cases h5 : (s.Result.Trips.length : Int) > 120
  · left; rw [if_neg h1, if_neg h2, if_neg h3, if_neg h4, if_pos h5]
  by_cases h6 : (s.Result.Stays.length : Int) > 120
  · left; rw [if_neg h1, if_neg h2, if_neg h3, if_neg h4, if_neg h5, if_pos h6]
  by_cases h7 : (s.Result.Charges.length : Int) > 120
  · left; rw [if_neg h1, if_neg h2, if_neg h3, if_neg h4, if_neg h5, if_neg h6, if_pos h7]
  by_cases h8 : (s.Result.Exclusions.length : Int) > 120
  · left; rw [if_neg h1, if_neg h2, if_neg h3, if_neg h4, if_neg h5, if_neg h6, if_neg h7, if_pos h8]
  by_cases h9 : (s.Books.Done.length : Int) > 120
  · left; rw [if_neg h1, if_neg h2, if_neg h3, if_neg h4, if_neg h5, if_neg h6, if_neg h7, if_neg h8, if_pos h9]
  by_cases h10 : (s.Config.Accounts.length : Int) > 30
  · left; rw [if_neg h1, if_neg h2, if_neg h3, if_neg h4, if_neg h5, if_neg h6, if_neg h7, if_neg h8, if_neg h9, if_pos h10]
  rw [if_neg h1, if_neg h2, if_neg h3, if_neg h4, if_neg h5, if_neg h6, if_neg h7, if_neg h8, if_neg h9, if_neg h10]
  rcases lp_big (l := s.Result.Passages) (step := tollwaylaw52_great_L11_step s) (fun p => p.Sources.length) 40 (fun k x hx hk => by
      unfold tollwaylaw52_great_L11_step
      refine ite_t (by omega) (bind_i hx ?_)
      by_cases hc : x.Sources.length > 40
      · rw [decide_eq_true hc]; exact ite_t (by omega) rfl
      · rw [decide_eq_false hc]; exact ite_f (by omega) (guard_i (inR_i64.2 (by omega)) rfl)) (by unfold tollwaylaw52_great_L11_step; exact ite_f (by omega) rfl) with k1 | ⟨k1, e1⟩
  · left; rw [k1]; rfl
  rcases lp_big (l := s.Result.Trips) (step := tollwaylaw52_great_L22_step s) (fun p => p.Stops.length) 40 (fun k x hx hk => by
      unfold tollwaylaw52_great_L22_step
      refine ite_t (by omega) (bind_i hx ?_)
      by_cases hc : x.Stops.length > 40
      · rw [decide_eq_true hc]; exact ite_t (by omega) rfl
      · rw [decide_eq_false hc]; exact ite_f (by omega) (guard_i (inR_i64.2 (by omega)) rfl)) (by unfold tollwaylaw52_great_L22_step; exact ite_f (by omega) rfl) with k2 | ⟨k2, e2⟩
  · left; rw [k1, Option.bind_some]; dsimp only; rw [k2]; rfl
  rcases lp_big (l := s.Result.Charges) (step := tollwaylaw52_great_L33_step s) (fun p => p.Lines.length) 40 (fun k x hx hk => by
      unfold tollwaylaw52_great_L33_step
      refine ite_t (by omega) (bind_i hx ?_)
      by_cases hc : x.Lines.length > 40
      · rw [decide_eq_true hc]; exact ite_t (by omega) rfl
      · rw [decide_eq_false hc]; exact ite_f (by omega) (guard_i (inR_i64.2 (by omega)) rfl)) (by unfold tollwaylaw52_great_L33_step; exact ite_f (by omega) rfl) with k3 | ⟨k3, e3⟩
  · left; rw [k1, Option.bind_some]; dsimp only; rw [k2, Option.bind_some]; dsimp only; rw [k3]; rfl
  rcases lp_big (l := s.Config.Accounts) (step := tollwaylaw52_great_L44_step s) (fun p => p.Owned.length) 80 (fun k x hx hk => by
      unfold tollwaylaw52_great_L44_step
      refine ite_t (by omega) (bind_i hx ?_)
      by_cases hc : x.Owned.length > 80
      · rw [decide_eq_true hc]; exact ite_t (by omega) rfl
      · rw [decide_eq_false hc]; exact ite_f (by omega) (guard_i (inR_i64.2 (by omega)) rfl)) (by unfold tollwaylaw52_great_L44_step; exact ite_f (by omega) rfl) with k4 | ⟨k4, e4⟩
  · left; rw [k1, Option.bind_some]; dsimp only; rw [k2, Option.bind_some]; dsimp only; rw [k3, Option.bind_some]; dsimp only; rw [k4]; rfl
  right
  refine ⟨by rw [k1, Option.bind_some]; dsimp only; rw [k2, Option.bind_some]; dsimp only; rw [k3, Option.bind_some]; dsimp only; rw [k4]; rfl, ?_⟩
  exact ⟨by omega, by omega, by omega, by omega, by omega, by omega, by omega, by omega, by omega, by omega, e1, e2, e3, e4⟩
end Go.Proofs.YtalobodhbbkgdabDoor.Av
namespace Go.Proofs.YtalobodhbbkgdabDoor.Av
theorem cutK' {α : Type} {l : List α} {k : Nat} {x : α} (h : l[k]? = some x) : List.drop k (List.take (k + 1) l) = [x] := by
  have hlt : k < l.length := get_lt h
  rw [List.getElem?_eq_getElem hlt] at h
  simp only [Option.some.injEq] at h
  rw [List.drop_take, show k + 1 - k = 1 by omega, List.drop_eq_getElem_cons hlt, h]
  rfl
theorem dec_len1 : ∀ (k m : Nat), 1 ≤ k → m < 10 ^ k → (Go.Lib.decDigits m).length ≤ k
  | 0, m, h, _ => by omega
  | k + 1, m, _, hm => by
    rw [Go.Lib.decDigits]
    split
    · simp
    · rename_i h10
      rcases Nat.eq_zero_or_pos k with rfl | hk
      · omega
      · have := dec_len1 k (m / 10) hk (by rw [Nat.pow_succ] at hm; omega)
        simp; omega
theorem digT {d : Nat} (h : d < 10) : ([48, 49, 50, 51, 52, 53, 54, 55, 56, 57] : List UInt8)[d]? = some (UInt8.ofNat (48 + d)) := by
  have : ∀ d : Fin 10, ([48, 49, 50, 51, 52, 53, 54, 55, 56, 57] : List UInt8)[d.val]? = some (UInt8.ofNat (48 + d.val)) := by decide
  exact this ⟨d, h⟩
theorem itoa_len (n : Int) (h : InR .i64 n) : (Go.Lib.itoa n).length ≤ 20 := by
  rw [inR_i64] at h
  unfold Go.Lib.itoa
  split
  · have := dec_len1 19 n.natAbs (by decide) (by omega)
    simp; omega
  · have := dec_len1 19 n.toNat (by decide) (by omega)
    omega
/-- the digits from the last on -/
theorem fmt_loop (n : Int) : ∀ (f : Nat) (acc : List UInt8) (m : Int), f ≤ 20 → acc.length + f ≤ 20 → m.natAbs < 10 ^ f → InR .i64 m →
    lp (tollwayref01_Format_L2_step n) (acc, m) = some ((if m = 0 then [] else Go.Lib.decDigits m.natAbs) ++ acc)
  | 0, acc, m, _, _, hm, _ => by
    have : m = 0 := by omega
    subst this
    refine lp_end ?_
    unfold tollwayref01_Format_L2_step
    exact ite_t rfl rfl
  | f + 1, acc, m, hf, ha, hm, hr => by
    have hr2 := inR_i64.1 hr
    by_cases h0 : m = 0
    · subst h0
      refine lp_end ?_
      unfold tollwayref01_Format_L2_step
      exact ite_t rfl rfl
    · have hq : ∃ q : Int, Int.tdiv m 10 = q ∧ q.natAbs = m.natAbs / 10 ∧ InR .i64 q := by
        refine ⟨_, rfl, by rw [Int.natAbs_tdiv]; rfl, ?_⟩
        have e : (Int.tdiv m 10).natAbs = m.natAbs / 10 := by rw [Int.natAbs_tdiv]; rfl
        exact inR_i64.2 (by omega)
      obtain ⟨q, hq, hqa, hqr⟩ := hq
      have hstep : tollwayref01_Format_L2_step n (acc, m) = some (.inl ([UInt8.ofNat (48 + m.natAbs % 10)] ++ acc, q)) := by
        unfold tollwayref01_Format_L2_step
        refine ite_f h0 ?_
        have e : (Int.tmod m 10).natAbs = m.natAbs % 10 := by rw [Int.natAbs_tmod]; rfl
        have hd : m.natAbs % 10 < 10 := Nat.mod_lt _ (by decide)
        generalize hdd : m.natAbs % 10 = d at e hd ⊢
        rw [hq]
        by_cases hneg : Int.tmod m 10 < 0
        · refine ite_t hneg ?_
          have e1 : 0 - Int.tmod m 10 = (d : Int) := by omega
          rw [e1, show Int.toNat ((d : Int) + 1) = d + 1 by omega, Int.toNat_natCast, cutK' (digT hd)]
          exact guard_i (inR_i64.2 (by omega)) (guard_i (inR_i64.2 (by omega)) (guard_i (by omega) (guard_i (by omega) (guard_i (by omega) (guard_i (by omega) (bind_i rfl (guard_i (by simp; omega) (guard_i hqr rfl))))))))
        · refine ite_f hneg ?_
          have e1 : Int.tmod m 10 = (d : Int) := by omega
          rw [e1, show Int.toNat ((d : Int) + 1) = d + 1 by omega, Int.toNat_natCast, cutK' (digT hd)]
          exact guard_i (inR_i64.2 (by omega)) (guard_i (by omega) (guard_i (by omega) (guard_i (by omega) (guard_i (by omega) (bind_i rfl (guard_i (by simp; omega) (guard_i hqr rfl)))))))
      rw [lp_go hstep, fmt_loop n f _ q (by omega) (by simp; omega) (by rw [hqa]; rw [Nat.pow_succ] at hm; omega) hqr, if_neg h0]
      by_cases hq0 : q = 0
      · rw [if_pos hq0]
        have hs : m.natAbs < 10 := by omega
        rw [Go.Lib.decDigits_one hs, Nat.mod_eq_of_lt hs]
        simp
      · rw [if_neg hq0, Go.Lib.decDigits.eq_1 m.natAbs, dif_neg (by omega), hqa]
        simp
theorem fmt_eq (n : Int) (h : InR .i64 n) : tollwayref01_Format n = some (Go.Lib.itoa n) := by
  have h2 := inR_i64.1 h
  unfold tollwayref01_Format
  by_cases h0 : n = 0
  · subst h0
    rw [if_pos rfl]
    unfold Go.Lib.itoa
    rw [if_neg (by omega)]
    rw [show Int.toNat 0 = 0 from rfl, Go.Lib.decDigits_one (by decide)]
    rfl
  · refine ite_f h0 (bind_i (fmt_loop n 20 [] n (by decide) (by simp) (by omega) h) ?_)
    rw [if_neg h0, List.append_nil]
    have hl := dec_len1 19 n.natAbs (by decide) (by omega)
    unfold Go.Lib.itoa
    by_cases hn : n < 0
    · simp only [if_pos hn]
      exact guard_i (by simp; omega) rfl
    · simp only [if_neg hn]
      rw [show n.natAbs = n.toNat by omega]
/-- the key of a source -/
def keyR (x : Tapi_Source) : List UInt8 := (x.Device ++ [46]) ++ Go.Lib.itoa x.Seq
theorem key_eq (x : Tapi_Source) (h : swfW x.Device ∧ InR .i64 x.Seq) : trace_key x = some (keyR x) := by
  obtain ⟨h1, h2⟩ := h
  have := itoa_len x.Seq h2
  unfold trace_key text_Format itoaF
  have hm : x.Device.length ≤ reachBytes := h1
  unfold reachBytes at hm
  exact guard_i (by simp; omega) (bind_i (by rw [if_pos h2]; rfl) (guard_i (by simp; omega) rfl))
theorem rkey_eq (x : Tapi_Source) (h : swfW x.Device ∧ InR .i64 x.Seq) : tollwayref52_key x = some (keyR x) := by
  obtain ⟨h1, h2⟩ := h
  have := itoa_len x.Seq h2
  unfold tollwayref52_key
  have hm : x.Device.length ≤ reachBytes := h1
  unfold reachBytes at hm
  exact guard_i (by simp; omega) (bind_i (fmt_eq _ h2) (guard_i (by simp; omega) rfl))
/-! ### charges and passages by their names -/
def cidx (l : List Tapi_Charge) (key : List UInt8) : Option Nat := fidx (fun x => decide (x.Key = key)) l 0
def pidx (l : List Tapi_Passage) (id : List UInt8) : Option Nat := fidx (fun x => decide (x.ID = id)) l 0
def noCharge : Tapi_Charge := ⟨[], [], [], 0, 0, [], 0⟩
def noPassage : Tapi_Passage := ⟨[], [], 0, [], [], 0, 0, []⟩
theorem charged_eq (r : Tapi_Result) (key : List UInt8) (hl : r.Charges.length ≤ 120) : trace_charged r key = some (match cidx r.Charges key with | some i => (r.Charges.getD i noCharge, true) | none => (noCharge, false)) := by
  have k1 := lp_find0 (l := r.Charges) (step := trace_charged_L1_step r key) (fun y => decide (y.Key = key)) (fun k => (k : Int)) (fun k y hy hk => by
    unfold trace_charged_L1_step
    refine ite_t (by omega) (bind_i hy ?_)
    by_cases hb : y.Key = key
    · rw [decide_eq_true hb]; exact ite_t hb rfl
    · rw [decide_eq_false hb]; exact ite_f hb (guard_i (inR_i64.2 (by omega)) rfl)) (by unfold trace_charged_L1_step; exact ite_f (by omega) rfl)
  unfold trace_charged cidx
  rw [k1]
  cases hi : fidx (fun y : Tapi_Charge => decide (y.Key = key)) r.Charges 0 with
  | none => rfl
  | some i =>
    obtain ⟨-, y, hy, -⟩ := fidx_some hi
    rw [Nat.sub_zero] at hy
    refine bind_i rfl (ite_f (by omega) (guard_i (by omega) (bind_i (by rw [Int.toNat_natCast]; exact hy) ?_)))
    simp [hy]
theorem rcharge_eq (l : List Tapi_Charge) (key : List UInt8) (hl : l.length ≤ 120) : tollwayref52_charge l key = some (match cidx l key with | some i => (i : Int) | none => -1) := by
  have k1 := lp_find0 (l := l) (step := tollwayref52_charge_L1_step l key) (fun y => decide (y.Key = key)) (fun k => (k : Int)) (fun k y hy hk => by
    unfold tollwayref52_charge_L1_step
    refine ite_t (by omega) (bind_i hy ?_)
    by_cases hb : y.Key = key
    · rw [decide_eq_true hb]; exact ite_t hb rfl
    · rw [decide_eq_false hb]; exact ite_f hb (guard_i (inR_i64.2 (by omega)) rfl)) (by unfold tollwayref52_charge_L1_step; exact ite_f (by omega) rfl)
  unfold tollwayref52_charge cidx
  rw [k1]
  cases fidx (fun y : Tapi_Charge => decide (y.Key = key)) l 0 <;> rfl
theorem passed_eq (r : Tapi_Result) (id : List UInt8) (hl : r.Passages.length ≤ 120) : trace_passed r id = some (match pidx r.Passages id with | some i => (r.Passages.getD i noPassage, true) | none => (noPassage, false)) := by
  have k1 := lp_find0 (l := r.Passages) (step := trace_passed_L1_step r id) (fun y => decide (y.ID = id)) (fun k => (k : Int)) (fun k y hy hk => by
    unfold trace_passed_L1_step
    refine ite_t (by omega) (bind_i hy ?_)
    by_cases hb : y.ID = id
    · rw [decide_eq_true hb]; exact ite_t hb rfl
    · rw [decide_eq_false hb]; exact ite_f hb (guard_i (inR_i64.2 (by omega)) rfl)) (by unfold trace_passed_L1_step; exact ite_f (by omega) rfl)
  unfold trace_passed pidx
  rw [k1]
  cases hi : fidx (fun y : Tapi_Passage => decide (y.ID = id)) r.Passages 0 with
  | none => rfl
  | some i =>
    obtain ⟨-, y, hy, -⟩ := fidx_some hi
    rw [Nat.sub_zero] at hy
    refine bind_i rfl (ite_f (by omega) (guard_i (by omega) (bind_i (by rw [Int.toNat_natCast]; exact hy) ?_)))
    simp [hy]
theorem rpassage_eq (l : List Tapi_Passage) (id : List UInt8) (hl : l.length ≤ 120) : tollwayref52_passage l id = some (match pidx l id with | some i => (i : Int) | none => -1) := by
  have k1 := lp_find0 (l := l) (step := tollwayref52_passage_L1_step l id) (fun y => decide (y.ID = id)) (fun k => (k : Int)) (fun k y hy hk => by
    unfold tollwayref52_passage_L1_step
    refine ite_t (by omega) (bind_i hy ?_)
    by_cases hb : y.ID = id
    · rw [decide_eq_true hb]; exact ite_t hb rfl
    · rw [decide_eq_false hb]; exact ite_f hb (guard_i (inR_i64.2 (by omega)) rfl)) (by unfold tollwayref52_passage_L1_step; exact ite_f (by omega) rfl)
  unfold tollwayref52_passage pidx
  rw [k1]
  cases fidx (fun y : Tapi_Passage => decide (y.ID = id)) l 0 <;> rfl
end Go.Proofs.YtalobodhbbkgdabDoor.Av
