/- The reference's Format is the library's Itoa. (Plain.) -/
import Derived.Test.YtnlaiahcemckkaaGreatDoorAvZ
import Derived.Test.YtnlaiahcemckkaaGreatDoorCO2
import Derived.Test.YtnlaiahcemckkaaGreatDoorLBS
set_option linter.unusedVariables false
set_option linter.unusedSimpArgs false
namespace Go.Proofs.YtnlaiahcemckkaaGreatDoor.Av
theorem cutK' {α : Type} {l : List α} {k : Nat} {x : α} (h : l[k]? = some x) : List.drop k (List.take (k + 1) l) = [x] := by
  have hlt : k < l.length := get_lt h
  rw [List.getElem?_eq_getElem hlt] at h
  simp only [Option.some.injEq] at h
  rw [List.drop_take, show k + 1 - k = 1 by omega, List.drop_eq_getElem_cons hlt, h]
  rfl
theorem dec_len1 : ∀ (k m : Nat), 1 ≤ k → m < 10 ^ k → (Go.Lib.decDigits m).length ≤ k
  | 0, m, h, _ => by omega
  | k + 1, m, _, hm => by
    rw [Go.Lib.decDigits]
    split
    · simp
    · rename_i h10
      rcases Nat.eq_zero_or_pos k with rfl | hk
      · omega
      · have := dec_len1 k (m / 10) hk (by rw [Nat.pow_succ] at hm; omega)
        simp; omega
theorem digT {d : Nat} (h : d < 10) : ([48, 49, 50, 51, 52, 53, 54, 55, 56, 57] : List UInt8)[d]? = some (UInt8.ofNat (48 + d)) := by
  have : ∀ d : Fin 10, ([48, 49, 50, 51, 52, 53, 54, 55, 56, 57] : List UInt8)[d.val]? = some (UInt8.ofNat (48 + d.val)) := by decide
  exact this ⟨d, h⟩
theorem itoa_len (n : Int) (h : InR .i64 n) : (Go.Lib.itoa n).length ≤ 20 := by
  rw [inR_i64] at h
  unfold Go.Lib.itoa
  split
  · have := dec_len1 19 n.natAbs (by decide) (by omega)
    simp; omega
  · have := dec_len1 19 n.toNat (by decide) (by omega)
    omega
/-- the digits from the last on -/
theorem fmt_loop (n : Int) : ∀ (f : Nat) (acc : List UInt8) (m : Int), f ≤ 20 → acc.length + f ≤ 20 → m.natAbs < 10 ^ f → InR .i64 m →
    lp (tollwayref01_Format_L2_step n) (acc, m) = some ((if m = 0 then [] else Go.Lib.decDigits m.natAbs) ++ acc)
  | 0, acc, m, _, _, hm, _ => by
    have : m = 0 := by omega
    subst this
    refine lp_end ?_
    unfold tollwayref01_Format_L2_step
    exact ite_t rfl rfl
  | f + 1, acc, m, hf, ha, hm, hr => by
    have hr2 := inR_i64.1 hr
    by_cases h0 : m = 0
    · subst h0
      refine lp_end ?_
      unfold tollwayref01_Format_L2_step
      exact ite_t rfl rfl
    · have hq : ∃ q : Int, Int.tdiv m 10 = q ∧ q.natAbs = m.natAbs / 10 ∧ InR .i64 q := by
        refine ⟨_, rfl, by rw [Int.natAbs_tdiv]; rfl, ?_⟩
        have e : (Int.tdiv m 10).natAbs = m.natAbs / 10 := by rw [Int.natAbs_tdiv]; rfl
        exact inR_i64.2 (by omega)
      obtain ⟨q, hq, hqa, hqr⟩ := hq
      have hstep : tollwayref01_Format_L2_step n (acc, m) = some (.inl ([UInt8.ofNat (48 + m.natAbs % 10)] ++ acc, q)) := by
        unfold tollwayref01_Format_L2_step
        refine ite_f h0 ?_
        have e : (Int.tmod m 10).natAbs = m.natAbs % 10 := by rw [Int.natAbs_tmod]; rfl
        have hd : m.natAbs % 10 < 10 := Nat.mod_lt _ (by decide)
        generalize hdd : m.natAbs % 10 = d at e hd ⊢
        rw [hq]
        by_cases hneg : Int.tmod m 10 < 0
        · refine ite_t hneg ?_
          have e1 : 0 - Int.tmod m 10 = (d : Int) := by omega
          rw [e1, show Int.toNat ((d : Int) + 1) = d + 1 by omega, Int.toNat_natCast, cutK' (digT hd)]
          exact guard_i (inR_i64.2 (by omega)) (guard_i (inR_i64.2 (by omega)) (guard_i (by omega) (guard_i (by omega) (guard_i (by omega) (guard_i (by omega) (bind_i rfl (guard_i (by simp; omega) (guard_i hqr rfl))))))))
        · refine ite_f hneg ?_
          have e1 : Int.tmod m 10 = (d : Int) := by omega
          rw [e1, show Int.toNat ((d : Int) + 1) = d + 1 by omega, Int.toNat_natCast, cutK' (digT hd)]
          exact guard_i (inR_i64.2 (by omega)) (guard_i (by omega) (guard_i (by omega) (guard_i (by omega) (guard_i (by omega) (bind_i rfl (guard_i (by simp; omega) (guard_i hqr rfl)))))))
      rw [lp_go hstep, fmt_loop n f _ q (by omega) (by simp; omega) (by rw [hqa]; rw [Nat.pow_succ] at hm; omega) hqr, if_neg h0]
      by_cases hq0 : q = 0
      · rw [if_pos hq0]
        have hs : m.natAbs < 10 := by omega
        rw [Go.Lib.decDigits_one hs, Nat.mod_eq_of_lt hs]
        simp
      · rw [if_neg hq0, Go.Lib.decDigits.eq_1 m.natAbs, dif_neg (by omega), hqa]
        simp
theorem fmt_eq (n : Int) (h : InR .i64 n) : tollwayref01_Format n = some (Go.Lib.itoa n) := by
  have h2 := inR_i64.1 h
  unfold tollwayref01_Format
  by_cases h0 : n = 0
  · subst h0
    rw [if_pos rfl]
    unfold Go.Lib.itoa
    rw [if_neg (by omega)]
    rw [show Int.toNat 0 = 0 from rfl, Go.Lib.decDigits_one (by decide)]
    rfl
  · refine ite_f h0 (bind_i (fmt_loop n 20 [] n (by decide) (by simp) (by omega) h) ?_)
    rw [if_neg h0, List.append_nil]
    have hl := dec_len1 19 n.natAbs (by decide) (by omega)
    unfold Go.Lib.itoa
    by_cases hn : n < 0
    · simp only [if_pos hn]
      exact guard_i (by simp; omega) rfl
    · simp only [if_neg hn]
      rw [show n.natAbs = n.toNat by omega]
end Go.Proofs.YtnlaiahcemckkaaGreatDoor.Av
/- Two results are the same, and the fates of a passage are the same, in the program's words and in the reference's. (Plain.) -/
set_option linter.unusedVariables false
set_option linter.unusedSimpArgs false
namespace Go.Proofs.YtnlaiahcemckkaaGreatDoor.Av
/-- a search in a list -/
theorem lp_any {α : Type} {l : List α} {step : Nat → Option (Nat ⊕ (Int ⊕ Unit))} {p : α → Bool}
    (hstep : ∀ (k : Nat) (x : α), l[k]? = some x → step k = some (match p x with | true => .inr (.inl (k : Int)) | false => .inl (k + 1)))
    (hend : step l.length = some (.inr (.inr ()))) : ∀ (m k : Nat), k + m = l.length → ∃ o, lp step k = some o ∧ (((l.drop k).any p = true ∧ ∃ j : Nat, o = .inl (j : Int)) ∨ ((l.drop k).any p = false ∧ o = .inr ()))
  | 0, k, hk => by
    have hk : k = l.length := by omega
    subst hk
    exact ⟨_, lp_end hend, .inr ⟨by simp, rfl⟩⟩
  | m + 1, k, hk => by
    have hlt : k < l.length := by omega
    have h := hstep k l[k] (List.getElem?_eq_getElem hlt)
    rw [List.drop_eq_getElem_cons hlt]
    cases hp : p l[k] with
    | true =>
      rw [hp] at h
      exact ⟨_, lp_end h, .inl ⟨by rw [List.any_cons, hp]; rfl, k, rfl⟩⟩
    | false =>
      rw [hp] at h
      obtain ⟨o, h1, h2⟩ := lp_any hstep hend m (k + 1) (by omega)
      refine ⟨o, by rw [lp_go h]; exact h1, ?_⟩
      rw [List.any_cons, hp, Bool.false_or]
      exact h2
/-- the stops that have a passage -/
def pasG (t : Tapi_Trip) : List (List UInt8) := t.Stops.foldl (fun b x => if x.Passage = [] then b else b ++ [x.Passage]) []
theorem pasG_len (l : List Tapi_Stop) : ∀ b : List (List UInt8), (l.foldl (fun b x => if x.Passage = [] then b else b ++ [x.Passage]) b).length ≤ b.length + l.length := by
  induction l with
  | nil => intro b; simp
  | cons x l ih =>
    intro b
    simp only [List.foldl_cons, List.length_cons]
    split
    · have := ih b; omega
    · have := ih (b ++ [x.Passage]); simp at this; omega
theorem passages_eq (t : Tapi_Trip) (h : t.Stops.length ≤ 8796093022000) : trip_Passages t = some (pasG t) := by
  unfold trip_Passages
  have key := lp_foldl (l := t.Stops) (mk := fun (b : List (List UInt8)) (k : Nat) => (k, b)) (step := trip_Passages_L1_step t) (g := fun b x => if x.Passage = [] then b else b ++ [x.Passage]) (out := fun b => b) (fun k b => b.length ≤ k)
    (fun k x b hx hb => by
      have hk := get_lt hx
      by_cases hp : x.Passage = []
      · refine ⟨?_, by rw [if_pos hp]; omega⟩
        unfold trip_Passages_L1_step
        exact ite_t (by omega) (bind_i hx (ite_t hp (guard_i (inR_i64.2 (by omega)) (by rw [if_pos hp]))))
      · refine ⟨?_, by rw [if_neg hp]; simp; omega⟩
        unfold trip_Passages_L1_step
        exact ite_t (by omega) (bind_i hx (ite_f hp (guard_i (by omega) (guard_i (inR_i64.2 (by omega)) (by rw [if_neg hp]))))))
    (fun b _ => by
      unfold trip_Passages_L1_step
      exact ite_f (by omega) rfl) (a := ([] : List (List UInt8))) (by simp)
  exact bind_i key rfl
theorem rpassages_eq (t : Tapi_Trip) (h : t.Stops.length ≤ 8796093022000) : tollwayref21_Passages t = some (pasG t) := passages_eq t h
structure FitO (r : Tapi_Result) : Prop where
  p : r.Passages.length ≤ 60
  t : r.Trips.length ≤ 60
  c : r.Charges.length ≤ 60
  e : r.Exclusions.length ≤ 60
  ids : ∀ t ∈ r.Trips, t.ID.length ≤ 1000000000000000 ∧ t.Stops.length ≤ 8796093022000
  why : ∀ x ∈ r.Exclusions, InR .i64 x.Why
/-- a trip of a charge to which a passage belongs -/
def tripH (id : List UInt8) (x : Tapi_Charge) (t : Tapi_Trip) : Bool := decide (x.Key = [116, 58] ++ t.ID) && (pasG t).any (fun y => decide (id = y))
def hitC (r : Tapi_Result) (id : List UInt8) (x : Tapi_Charge) : Bool := r.Trips.any (tripH id x)
def hitE (id : List UInt8) (x : Tapi_Exclusion) : Bool := decide (x.ID = id)
def countO (r : Tapi_Result) (id : List UInt8) : Nat := r.Charges.countP (hitC r id) + r.Exclusions.countP (hitE id)
theorem pasG_le (t : Tapi_Trip) : (pasG t).length ≤ t.Stops.length := by
  have := pasG_len t.Stops []
  simpa [pasG] using this
theorem contains_eq (id : List UInt8) (k8 : Nat) (l : List (List UInt8)) (h : l.length ≤ 8796093022000) :
    ∃ o, lp (batch_Fates_L88_step id k8 l) (0 : Nat) = some o ∧ ((l.any (fun y => decide (id = y)) = true ∧ ∃ j : Nat, o = .inl (j : Int)) ∨ (l.any (fun y => decide (id = y)) = false ∧ o = .inr ())) := by
  have key := lp_any (l := l) (step := batch_Fates_L88_step id k8 l) (p := fun y => decide (id = y)) (fun k x hx => by
      have hk := get_lt hx
      unfold batch_Fates_L88_step
      refine ite_t (by omega) (bind_i hx ?_)
      by_cases he : id = x
      · rw [decide_eq_true he]; exact ite_t he rfl
      · rw [decide_eq_false he]; exact ite_f he (guard_i (inR_i64.2 (by omega)) rfl))
    (by
      unfold batch_Fates_L88_step
      exact ite_f (by omega) rfl) l.length 0 (by omega)
  simpa using key
theorem trips_eq (r : Tapi_Result) (id : List UInt8) (x : Tapi_Charge) (f : FitO r) :
    ∃ o, lp (batch_Fates_L58_step r id x) (0 : Nat) = some o ∧ ((hitC r id x = true ∧ ∃ j : Nat, o = .inl (j : Int)) ∨ (hitC r id x = false ∧ o = .inr ())) := by
  have key := lp_any (l := r.Trips) (step := batch_Fates_L58_step r id x) (p := tripH id x) (fun k t ht => by
      have hk := get_lt ht
      have ht2 := f.t
      obtain ⟨i1, i2⟩ := f.ids t (List.mem_of_getElem? ht)
      unfold batch_Fates_L58_step
      refine ite_t (by omega) (bind_i ht (guard_i (by simp; omega) ?_))
      unfold tripH
      by_cases he : x.Key = [116, 58] ++ t.ID
      · refine ite_t he (bind_i (passages_eq t i2) ?_)
        obtain ⟨o, h1, h2⟩ := contains_eq id k (pasG t) (Nat.le_trans (pasG_le t) i2)
        refine bind_i h1 ?_
        rw [decide_eq_true he]
        rcases h2 with ⟨h3, j, rfl⟩ | ⟨h3, rfl⟩
        · rw [h3]; exact ite_t (by omega) rfl
        · rw [h3]; exact guard_i (inR_i64.2 (by omega)) rfl
      · rw [decide_eq_false he]
        exact ite_f he (guard_i (inR_i64.2 (by omega)) rfl))
    (by
      unfold batch_Fates_L58_step
      exact ite_f (by omega) rfl) r.Trips.length 0 (by omega)
  simpa [hitC] using key
theorem foldl_count {α β : Type} (p : α → Bool) (g : α → β) : ∀ (l : List α) (b : List β), (l.foldl (fun b x => if p x then b ++ [g x] else b) b).length = b.length + l.countP p
  | [], b => by simp
  | x :: l, b => by
    rw [List.foldl_cons, foldl_count p g l]
    by_cases h : p x = true
    · rw [if_pos h, List.countP_cons_of_pos h]; simp; omega
    · rw [if_neg h, List.countP_cons_of_neg (by simpa using h)]
theorem foldl_le {α β : Type} (p : α → Bool) (g : α → β) (l : List α) (b : List β) : (l.foldl (fun b x => if p x then b ++ [g x] else b) b).length ≤ b.length + l.length := by
  rw [foldl_count]; have := List.countP_le_length (p := p) (l := l); omega
/-- the fates, in the order in which they are met -/
def fatesB (r : Tapi_Result) (id : List UInt8) : List (List UInt8) := r.Exclusions.foldl (fun b x => if hitE id x = true then b ++ [[120, 58] ++ Go.Lib.itoa x.Why] else b) (r.Charges.foldl (fun b x => if hitC r id x = true then b ++ [x.Key] else b) [])
theorem fates_eq (r : Tapi_Result) (id : List UInt8) (f : FitO r) : batch_Fates r id = some (sortS (fatesB r id)) := by
  have hc := f.c; have he := f.e
  have k1 := lp_foldl (l := r.Charges) (mk := fun (b : List (List UInt8)) (k : Nat) => (k, b)) (step := batch_Fates_L1_step r id) (g := fun b x => if hitC r id x = true then b ++ [x.Key] else b) (out := fun b => b) (fun k b => b.length ≤ k)
    (fun k x b hx hb => by
      have hk := get_lt hx
      obtain ⟨o, h1, h2⟩ := trips_eq r id x f
      refine ⟨?_, by split <;> (try simp) <;> omega⟩
      unfold batch_Fates_L1_step
      refine ite_t (by omega) (bind_i hx (bind_i h1 ?_))
      show _ = some (Sum.inl (k + 1, if hitC r id x = true then b ++ [x.Key] else b))
      rcases h2 with ⟨h3, j, rfl⟩ | ⟨h3, rfl⟩
      · rw [if_pos h3]; exact ite_t (by omega) (guard_i (by omega) (guard_i (inR_i64.2 (by omega)) rfl))
      · rw [show (if hitC r id x = true then b ++ [x.Key] else b) = b from if_neg (by rw [h3]; simp)]; exact guard_i (inR_i64.2 (by omega)) rfl)
    (fun b _ => by
      unfold batch_Fates_L1_step
      exact ite_f (by omega) rfl) (a := ([] : List (List UInt8))) (by simp)
  obtain ⟨b1, hb1⟩ : ∃ b1, r.Charges.foldl (fun b x => if hitC r id x = true then b ++ [x.Key] else b) [] = b1 := ⟨_, rfl⟩
  have l1 : b1.length = r.Charges.countP (hitC r id) := by rw [← hb1, foldl_count]; simp
  rw [hb1] at k1
  have c1 := List.countP_le_length (p := hitC r id) (l := r.Charges)
  have k2 := lp_foldl (l := r.Exclusions) (mk := fun (b : List (List UInt8)) (k : Nat) => (k, b)) (step := batch_Fates_L108_step r id) (g := fun b x => if hitE id x = true then b ++ [[120, 58] ++ Go.Lib.itoa x.Why] else b) (out := fun b => b) (fun k b => b.length ≤ 60 + k)
    (fun k x b hx hb => by
      have hk := get_lt hx
      have hw := f.why x (List.mem_of_getElem? hx)
      have hlen := itoa_len _ hw
      refine ⟨?_, by split <;> (try simp) <;> omega⟩
      unfold batch_Fates_L108_step
      refine ite_t (by omega) (bind_i hx ?_)
      show _ = some (Sum.inl (k + 1, if hitE id x = true then b ++ [[120, 58] ++ Go.Lib.itoa x.Why] else b))
      by_cases hid : x.ID = id
      · rw [show (if hitE id x = true then b ++ [[120, 58] ++ Go.Lib.itoa x.Why] else b) = b ++ [[120, 58] ++ Go.Lib.itoa x.Why] from if_pos (decide_eq_true hid)]
        refine ite_t hid (bind_i (v := Go.Lib.itoa x.Why) ?_ (guard_i (by simp; omega) (guard_i (by omega) (guard_i (inR_i64.2 (by omega)) rfl))))
        unfold text_Format itoaF
        rw [if_pos hw]
        rfl
      · rw [show (if hitE id x = true then b ++ [[120, 58] ++ Go.Lib.itoa x.Why] else b) = b from if_neg (by unfold hitE; rw [decide_eq_false hid]; simp)]
        exact ite_f hid (guard_i (inR_i64.2 (by omega)) rfl))
    (fun b _ => by
      unfold batch_Fates_L108_step
      exact ite_f (by omega) rfl) (a := b1) (by omega)
  obtain ⟨b2, hb2⟩ : ∃ b2, r.Exclusions.foldl (fun b x => if hitE id x = true then b ++ [[120, 58] ++ Go.Lib.itoa x.Why] else b) b1 = b2 := ⟨_, rfl⟩
  have l2 : b2.length = countO r id := by rw [← hb2, foldl_count, l1]; rfl
  rw [hb2] at k2
  have c2 := List.countP_le_length (p := hitE id) (l := r.Exclusions)
  rw [show fatesB r id = b2 by unfold fatesB; rw [hb1, hb2]]
  unfold batch_Fates
  refine bind_i k1 (bind_i k2 (guard_i ?_ rfl))
  unfold SrS
  rw [l2]; unfold countO; omega
/-! the reference's fates -/
def Sor (l : List (List UInt8)) : Prop := l.Pairwise (fun a b => decide (a ≤ b) = true)
theorem le_cond (x s : List UInt8) : (Op.bytesLess x s || x == s) = true ↔ x ≤ s := by
  rw [Go.Proofs.bytesLess_eq]
  by_cases h : x < s
  · simp only [h, decide_true, Bool.true_or, true_iff]
    rcases List.le_total x s with h1 | h1
    · exact h1
    · exact absurd h h1
  · simp only [h, decide_false, Bool.false_or, beq_iff_eq]
    exact ⟨fun e => by rw [e]; exact List.le_refl _, fun h1 => List.le_antisymm h1 h⟩
theorem insert_ok (l : List (List UInt8)) (s : List UInt8) (h : l.length ≤ 1000) (hs : Sor l) : ∃ m, tollwayref47_insert l s = some m ∧ Sor m ∧ m.Perm (l ++ [s]) := by
  have main : ∀ (m k : Nat), k + m = l.length → (∀ x ∈ l.take k, x ≤ s) → ∃ j : Nat, j ≤ l.length ∧ lp (tollwayref47_insert_L1_step l s) k = some (j : Int) ∧ (∀ x ∈ l.take j, x ≤ s) ∧ ∀ x, l[j]? = some x → s ≤ x := by
    intro m
    induction m with
    | zero =>
      intro k hk hx
      refine ⟨k, by omega, lp_end ?_, hx, fun x hx => ?_⟩
      · unfold tollwayref47_insert_L1_step
        exact ite_f (by omega) rfl
      · have := get_lt hx; omega
    | succ m ih =>
      intro k hk hx
      have hlt : k < l.length := by omega
      have hg := List.getElem?_eq_getElem hlt
      by_cases hc : (Op.bytesLess l[k] s || l[k] == s) = true
      · obtain ⟨j, h1, h2, h3⟩ := ih (k + 1) (by omega) (fun x hm => by
          rw [List.take_add_one, hg] at hm
          rcases List.mem_append.1 hm with hm | hm
          · exact hx x hm
          · simp at hm; subst hm; exact (le_cond _ _).1 hc)
        refine ⟨j, h1, ?_, h3⟩
        rw [lp_go (s' := k + 1)]
        · exact h2
        · unfold tollwayref47_insert_L1_step
          exact ite_t (by omega) (bind_i hg (ite_t hc (guard_i (inR_i64.2 (by omega)) rfl)))
      · refine ⟨k, by omega, lp_end ?_, hx, fun x hx => ?_⟩
        · unfold tollwayref47_insert_L1_step
          exact ite_t (by omega) (bind_i hg (ite_f hc rfl))
        · rw [hg] at hx
          simp only [Option.some.injEq] at hx
          subst hx
          rcases List.le_total l[k] s with h1 | h1
          · exact absurd ((le_cond _ _).2 h1) hc
          · exact h1
  obtain ⟨j, h1, h2, h3, h4⟩ := main l.length 0 (by omega) (by simp)
  refine ⟨(l.take j ++ [s]) ++ l.drop j, ?_, ?_, ?_⟩
  · unfold tollwayref47_insert
    have e : Int.toNat (j : Int) = j := by omega
    refine bind_i h2 (guard_i (by omega) ?_)
    rw [e]
    exact guard_i (by omega) (guard_i (by simp; omega) (guard_i (by simp; omega) (guard_i (by simp; omega) rfl)))
  · have hs2 := hs
    unfold Sor at hs2 ⊢
    rw [← List.take_append_drop j l, List.pairwise_append] at hs2
    obtain ⟨p1, p2, p3⟩ := hs2
    have hsd : ∀ x ∈ l.drop j, s ≤ x := fun x hx => by
      cases hd : l.drop j with
      | nil => rw [hd] at hx; cases hx
      | cons y ys =>
        have hy : l[j]? = some y := by
          have := List.getElem?_drop (xs := l) (i := j) (j := 0)
          rw [hd] at this
          simpa using this.symm
        have h5 := h4 y hy
        rw [hd] at hx p2
        rcases List.mem_cons.1 hx with rfl | hx
        · exact h5
        · have := (List.pairwise_cons.1 p2).1 x hx
          exact List.le_trans h5 (of_decide_eq_true this)
    rw [List.pairwise_append, List.pairwise_append]
    refine ⟨⟨p1, by simp, fun x hx y hy => ?_⟩, p2, fun x hx y hy => ?_⟩
    · simp at hy; subst hy; exact decide_eq_true (h3 x hx)
    · rcases List.mem_append.1 hx with hx | hx
      · exact p3 x hx y hy
      · simp at hx; subst hx; exact decide_eq_true (hsd y hy)
  · have : (l ++ [s]) = l.take j ++ (l.drop j ++ [s]) := by rw [← List.append_assoc, List.take_append_drop]
    rw [this, List.append_assoc]
    exact List.Perm.append_left _ List.perm_append_comm
theorem rcontains_eq (r : Tapi_Result) (id : List UInt8) (k6 : Nat) (b1 : List (List UInt8)) (v7 : Bool) (k8 : Nat) (l : List (List UInt8)) (h : l.length ≤ 8796093022000) :
    ∀ (m k : Nat) (v : Bool), k + m = l.length → lp (tollwayref47_Fates_L94_step r id k6 b1 v7 k8 l) (v, k) = some (v || (l.drop k).any (fun y => decide (id = y))) := by
  intro m
  induction m with
  | zero =>
    intro k v hk
    have hk : k = l.length := by omega
    subst hk
    rw [lp_end (r := v)]
    · simp
    · unfold tollwayref47_Fates_L94_step
      exact ite_f (by omega) rfl
  | succ m ih =>
    intro k v hk
    have hlt : k < l.length := by omega
    rw [List.drop_eq_getElem_cons hlt, List.any_cons]
    cases v with
    | true =>
      rw [lp_go (s' := (true, k + 1)), ih (k + 1) true (by omega)]
      · simp
      · unfold tollwayref47_Fates_L94_step
        exact ite_t (by omega) (ite_t rfl (guard_i (inR_i64.2 (by omega)) rfl))
    | false =>
      rw [lp_go (s' := (l[k] == id, k + 1)), ih (k + 1) _ (by omega)]
      · by_cases he : id = l[k]
        · simp [he]
        · simp [he, Ne.symm he]
      · unfold tollwayref47_Fates_L94_step
        exact ite_t (by omega) (ite_f (by simp) (bind_i (List.getElem?_eq_getElem hlt) (guard_i (inR_i64.2 (by omega)) rfl)))
theorem rtrips_eq (r : Tapi_Result) (id : List UInt8) (k6 : Nat) (b1 : List (List UInt8)) (x : Tapi_Charge) (hx : r.Charges[k6]? = some x) (f : FitO r) :
    ∀ (m k : Nat) (v : Bool), k + m = r.Trips.length → lp (tollwayref47_Fates_L60_step r id k6 b1) (v, k) = some (v || (r.Trips.drop k).any (tripH id x)) := by
  have ht2 := f.t
  intro m
  induction m with
  | zero =>
    intro k v hk
    have hk : k = r.Trips.length := by omega
    subst hk
    rw [lp_end (r := v)]
    · simp
    · unfold tollwayref47_Fates_L60_step
      exact ite_f (by omega) rfl
  | succ m ih =>
    intro k v hk
    have hlt : k < r.Trips.length := by omega
    obtain ⟨i1, i2⟩ := f.ids r.Trips[k] (List.getElem_mem hlt)
    rw [List.drop_eq_getElem_cons hlt, List.any_cons]
    by_cases he : x.Key = [116, 58] ++ r.Trips[k].ID
    · have hc := rcontains_eq r id k6 b1 v k (pasG r.Trips[k]) (Nat.le_trans (pasG_le _) i2) (pasG r.Trips[k]).length 0 v (by omega)
      rw [List.drop_zero] at hc
      rw [lp_go (s' := (v || (pasG r.Trips[k]).any (fun y => decide (id = y)), k + 1)), ih (k + 1) _ (by omega)]
      · simp [tripH, he, Bool.or_assoc]
      · unfold tollwayref47_Fates_L60_step
        exact ite_t (by omega) (bind_i (List.getElem?_eq_getElem hlt) (guard_i (by simp; omega) (bind_i hx (ite_t he.symm (bind_i (rpassages_eq _ i2) (bind_i hc (guard_i (inR_i64.2 (by omega)) rfl)))))))
    · rw [lp_go (s' := (v, k + 1)), ih (k + 1) _ (by omega)]
      · have : tripH id x r.Trips[k] = false := by unfold tripH; rw [decide_eq_false he]; rfl
        rw [this]; simp
      · unfold tollwayref47_Fates_L60_step
        exact ite_t (by omega) (bind_i (List.getElem?_eq_getElem hlt) (guard_i (by simp; omega) (bind_i hx (ite_f (fun h => he h.symm) (guard_i (inR_i64.2 (by omega)) rfl)))))
/-- a loop over a list that inserts here and there -/
theorem lp_ins {α σ : Type} {l : List α} {mk : List (List UInt8) → Nat → σ} {step : σ → Option (σ ⊕ List (List UInt8))} {p : α → Bool} {g : α → List UInt8} (c : Nat)
    (hstep : ∀ k x b, l[k]? = some x → b.length ≤ c + k → Sor b → ∃ b', step (mk b k) = some (.inl (mk b' (k + 1))) ∧ Sor b' ∧ b'.Perm (if p x = true then b ++ [g x] else b))
    (hend : ∀ b, step (mk b l.length) = some (.inr b)) : ∀ (m k : Nat) (b b0 : List (List UInt8)), k + m = l.length → b.length ≤ c + k → Sor b → b.Perm b0 → ∃ b', lp step (mk b k) = some b' ∧ Sor b' ∧ b'.Perm ((l.drop k).foldl (fun b x => if p x = true then b ++ [g x] else b) b0)
  | 0, k, b, b0, hk, hb, hs, hp => by
    have hk : k = l.length := by omega
    subst hk
    exact ⟨b, lp_end (hend b), hs, by simpa using hp⟩
  | m + 1, k, b, b0, hk, hb, hs, hp => by
    have hlt : k < l.length := by omega
    obtain ⟨b', h1, h2, h3⟩ := hstep k l[k] b (List.getElem?_eq_getElem hlt) hb hs
    have hl := h3.length_eq
    obtain ⟨b2, h4, h5, h6⟩ := lp_ins c hstep hend m (k + 1) b' (if p l[k] = true then b0 ++ [g l[k]] else b0) (by omega) (by rw [hl]; split <;> (try simp) <;> omega) h2 (h3.trans (by
      split
      · exact hp.append_right _
      · exact hp))
    refine ⟨b2, by rw [lp_go h1]; exact h4, h5, ?_⟩
    rw [List.drop_eq_getElem_cons hlt, List.foldl_cons]
    exact h6
theorem rfates_eq (r : Tapi_Result) (id : List UInt8) (f : FitO r) : tollwayref47_Fates r id = some (sortS (fatesB r id)) := by
  have hc := f.c; have he := f.e
  obtain ⟨b1, k1, s1, p1⟩ := lp_ins (l := r.Charges) (mk := fun (b : List (List UInt8)) (k : Nat) => (k, b)) (step := tollwayref47_Fates_L1_step r id) (p := hitC r id) (g := fun x => x.Key) 0
    (fun k x b hx hb hs => by
      have hk := get_lt hx
      have ht := rtrips_eq r id k b x hx f r.Trips.length 0 false (by omega)
      rw [List.drop_zero, Bool.false_or] at ht
      by_cases hh : hitC r id x = true
      · obtain ⟨m, h1, h2, h3⟩ := insert_ok b x.Key (by omega) hs
        refine ⟨m, ?_, h2, by rw [if_pos hh]; exact h3⟩
        unfold tollwayref47_Fates_L1_step
        exact ite_t (by omega) (bind_i ht (ite_t hh (bind_i hx (bind_i h1 (guard_i (inR_i64.2 (by omega)) rfl)))))
      · refine ⟨b, ?_, hs, by rw [if_neg hh]⟩
        unfold tollwayref47_Fates_L1_step
        exact ite_t (by omega) (bind_i ht (ite_f hh (guard_i (inR_i64.2 (by omega)) rfl))))
    (fun b => by
      unfold tollwayref47_Fates_L1_step
      exact ite_f (by omega) rfl) r.Charges.length 0 [] [] (by omega) (by simp) (by simp [Sor]) (List.Perm.refl _)
  rw [List.drop_zero] at p1
  have l1 : b1.length ≤ 60 := by
    rw [p1.length_eq]
    have := foldl_le (hitC r id) (fun x : Tapi_Charge => x.Key) r.Charges []
    simp at this
    omega
  obtain ⟨b2, k2, s2, p2⟩ := lp_ins (l := r.Exclusions) (mk := fun (b : List (List UInt8)) (k : Nat) => (k, b)) (step := tollwayref47_Fates_L116_step r id) (p := hitE id) (g := fun x => [120, 58] ++ Go.Lib.itoa x.Why) 60
    (fun k x b hx hb hs => by
      have hk := get_lt hx
      have hw := f.why x (List.mem_of_getElem? hx)
      have hlen := itoa_len _ hw
      by_cases hid : x.ID = id
      · obtain ⟨m, h1, h2, h3⟩ := insert_ok b ([120, 58] ++ Go.Lib.itoa x.Why) (by omega) hs
        refine ⟨m, ?_, h2, by rw [if_pos (show hitE id x = true from decide_eq_true hid)]; exact h3⟩
        unfold tollwayref47_Fates_L116_step
        exact ite_t (by omega) (bind_i hx (ite_t hid (bind_i (fmt_eq _ hw) (guard_i (by simp; omega) (bind_i h1 (guard_i (inR_i64.2 (by omega)) rfl))))))
      · refine ⟨b, ?_, hs, by rw [if_neg (by unfold hitE; rw [decide_eq_false hid]; simp)]⟩
        unfold tollwayref47_Fates_L116_step
        exact ite_t (by omega) (bind_i hx (ite_f hid (guard_i (inR_i64.2 (by omega)) rfl))))
    (fun b => by
      unfold tollwayref47_Fates_L116_step
      exact ite_f (by omega) rfl) r.Exclusions.length 0 b1 _ (by omega) (by omega) s1 p1
  rw [List.drop_zero] at p2
  have hB : b2.Perm (fatesB r id) := p2
  have heq : b2 = sortS (fatesB r id) := by
    have tr : ∀ a b c : List UInt8, decide (a ≤ b) = true → decide (b ≤ c) = true → decide (a ≤ c) = true := fun a b c h1 h2 => by simp only [decide_eq_true_eq] at *; exact List.le_trans h1 h2
    have to : ∀ a b : List UInt8, (decide (a ≤ b) || decide (b ≤ a)) = true := fun a b => by simp only [Bool.or_eq_true, decide_eq_true_eq]; exact List.le_total a b
    refine List.Perm.eq_of_pairwise (le := fun a b => decide (a ≤ b) = true) (fun a b _ _ h1 h2 => ?_) s2 (List.pairwise_mergeSort tr to _) (hB.trans (List.mergeSort_perm _ _).symm)
    exact List.le_antisymm (of_decide_eq_true h1) (of_decide_eq_true h2)
  unfold tollwayref47_Fates
  refine bind_i k1 (bind_i k2 ?_)
  rw [heq]
end Go.Proofs.YtnlaiahcemckkaaGreatDoor.Av
/- Results are compared alike, and a result is the same as itself; the law. (Plain.) -/
set_option linter.unusedVariables false
set_option linter.unusedSimpArgs false
namespace Go.Proofs.YtnlaiahcemckkaaGreatDoor.Av
def all2 {α β : Type} (p : α → β → Bool) : List α → List β → Bool
  | x :: l, y :: m => p x y && all2 p l m
  | _, _ => true
theorem all2_refl {α : Type} {p : α → α → Bool} (h : ∀ x, p x x = true) : ∀ l : List α, all2 p l l = true
  | [] => rfl
  | x :: l => by rw [all2, h x, all2_refl h l]; rfl
theorem lp_all {α β : Type} {l : List α} {m : List β} {step : Nat → Option (Nat ⊕ (Unit ⊕ Unit))} {p : α → β → Bool} (hlen : l.length = m.length)
    (hstep : ∀ (k : Nat) (x : α) (y : β), l[k]? = some x → m[k]? = some y → step k = some (match p x y with | true => .inl (k + 1) | false => .inr (.inl ())))
    (hend : step l.length = some (.inr (.inr ()))) : ∀ (n k : Nat), k + n = l.length → lp step k = some (match all2 p (l.drop k) (m.drop k) with | true => .inr () | false => .inl ())
  | 0, k, hk => by
    have hk : k = l.length := by omega
    subst hk
    rw [lp_end hend, List.drop_length]
    rfl
  | n + 1, k, hk => by
    have hlt : k < l.length := by omega
    have hlt2 : k < m.length := by omega
    have h := hstep k l[k] m[k] (List.getElem?_eq_getElem hlt) (List.getElem?_eq_getElem hlt2)
    rw [List.drop_eq_getElem_cons hlt, List.drop_eq_getElem_cons hlt2, all2]
    cases hp : p l[k] m[k] with
    | true =>
      rw [hp] at h
      rw [lp_go h, lp_all hlen hstep hend n (k + 1) (by omega), Bool.true_and]
    | false =>
      rw [hp] at h
      rw [lp_end h]; rfl
theorem lp_all0 {α β : Type} {l : List α} {m : List β} {step : Nat → Option (Nat ⊕ (Unit ⊕ Unit))} {p : α → β → Bool} (hlen : (↑l.length : Int) = ↑m.length)
    (hstep : ∀ (k : Nat) (x : α) (y : β), l[k]? = some x → m[k]? = some y → step k = some (match p x y with | true => .inl (k + 1) | false => .inr (.inl ())))
    (hend : step l.length = some (.inr (.inr ()))) : lp step (0 : Nat) = some (match all2 p l m with | true => .inr () | false => .inl ()) := by
  have := lp_all (by omega) hstep hend l.length 0 (by omega)
  simpa using this
theorem and_chain {p : Prop} [Decidable p] {a : Option Bool} {b : Bool} (h : p → a = some b) : (if p then a else some false) = some (decide p && b) := by
  by_cases hp : p
  · rw [if_pos hp, h hp, decide_eq_true hp]; rfl
  · rw [if_neg hp, decide_eq_false hp]; rfl
/-! parts -/
def pS (x y : Tapi_Source) : Bool := (x.Device == y.Device) && ((x.Seq == y.Seq) && true)
def pSt (x y : Tapi_Stop) : Bool := (x.Point == y.Point) && ((x.Time == y.Time) && ((x.Passage == y.Passage) && true))
def pLn (x y : Tapi_Line) : Bool := (x.Text == y.Text) && ((x.Cents == y.Cents) && true)
def pP (x y : Tapi_Passage) : Bool := decide (x.ID = y.ID) && (decide (x.Point = y.Point) && (decide (x.Time = y.Time) && (decide (x.Tag = y.Tag) && (decide (x.Plate = y.Plate) && (decide (x.Class = y.Class) && (decide (x.Score = y.Score) && (decide ((↑x.Sources.length : Int) = ↑y.Sources.length) && all2 pS x.Sources y.Sources)))))))
def pT (x y : Tapi_Trip) : Bool := decide (x.ID = y.ID) && (decide (x.Vehicle = y.Vehicle) && (decide (x.System = y.System) && (decide (x.Class = y.Class) && (decide ((↑x.Stops.length : Int) = ↑y.Stops.length) && all2 pSt x.Stops y.Stops))))
def pC (x y : Tapi_Charge) : Bool := decide (x.Key = y.Key) && (decide (x.Vehicle = y.Vehicle) && (decide (x.System = y.System) && (decide (x.Class = y.Class) && (decide (x.Time = y.Time) && (decide (x.Cents = y.Cents) && (decide ((↑x.Lines.length : Int) = ↑y.Lines.length) && all2 pLn x.Lines y.Lines))))))
theorem pS_refl (x : Tapi_Source) : pS x x = true := by simp [pS]
theorem pSt_refl (x : Tapi_Stop) : pSt x x = true := by simp [pSt]
theorem pLn_refl (x : Tapi_Line) : pLn x x = true := by simp [pLn]
theorem pP_refl (x : Tapi_Passage) : pP x x = true := by simp [pP, all2_refl pS_refl]
theorem pT_refl (x : Tapi_Trip) : pT x x = true := by simp [pT, all2_refl pSt_refl]
theorem pC_refl (x : Tapi_Charge) : pC x x = true := by simp [pC, all2_refl pLn_refl]
theorem cut_i {o : Option (Unit ⊕ Unit)} {b : Bool} {f : (Unit ⊕ Unit) → Option Bool} (h : o = some (match b with | true => .inr () | false => .inl ())) (h1 : f (.inl ()) = some false) (h2 : f (.inr ()) = some true) : o.bind f = some b := by
  rw [h]
  cases b
  · exact h1
  · exact h2
theorem c1_eq (x y : Tapi_Passage) (h : x.Sources.length ≤ 1000000000000000) : batch_Same_C1 x y = some (pP x y) :=
  and_chain fun _ => and_chain fun _ => and_chain fun _ => and_chain fun _ => and_chain fun _ => and_chain fun _ => and_chain fun _ => and_chain fun hl =>
    cut_i (lp_all0 (p := pS) hl (fun k u v hu hv => by
      have hk := get_lt hu
      unfold batch_Same_C1_L9_step
      refine ite_t (by omega) (bind_i hu (bind_i hv ?_))
      cases hp : pS u v with
      | true => exact ite_t hp (guard_i (inR_i64.2 (by omega)) rfl)
      | false => exact ite_f (by unfold pS at hp; rw [hp]; simp) rfl) (by
      unfold batch_Same_C1_L9_step
      exact ite_f (by omega) rfl)) rfl rfl
theorem t_eq (x y : Tapi_Trip) (h : x.Stops.length ≤ 1000000000000000) : tollwayref21_One x y = some (pT x y) :=
  and_chain fun _ => and_chain fun _ => and_chain fun _ => and_chain fun _ => and_chain fun hl =>
    cut_i (lp_all0 (p := pSt) hl (fun k u v hu hv => by
      have hk := get_lt hu
      unfold tollwayref21_One_L6_step
      refine ite_t (by omega) (bind_i hu (bind_i hv ?_))
      cases hp : pSt u v with
      | true => exact ite_t hp (guard_i (inR_i64.2 (by omega)) rfl)
      | false => exact ite_f (by unfold pSt at hp; rw [hp]; simp) rfl) (by
      unfold tollwayref21_One_L6_step
      exact ite_f (by omega) rfl)) rfl rfl
theorem ch_eq (x y : Tapi_Charge) (h : x.Lines.length ≤ 1000000000000000) : tollwayref31_One x y = some (pC x y) :=
  and_chain fun _ => and_chain fun _ => and_chain fun _ => and_chain fun _ => and_chain fun _ => and_chain fun _ => and_chain fun hl =>
    cut_i (lp_all0 (p := pLn) hl (fun k u v hu hv => by
      have hk := get_lt hu
      unfold tollwayref31_One_L8_step
      refine ite_t (by omega) (bind_i hu (bind_i hv ?_))
      cases hp : pLn u v with
      | true => exact ite_t hp (guard_i (inR_i64.2 (by omega)) rfl)
      | false => exact ite_f (by unfold pLn at hp; rw [hp]; simp) rfl) (by
      unfold tollwayref31_One_L8_step
      exact ite_f (by omega) rfl)) rfl rfl
/-! the reference's comparison of passages -/
theorem before_tot (a b : List UInt8) (h : a.length ≤ 1000000000000000) : ∃ r, tollwayref01_Before a b = some r := by
  have main : ∀ (n k : Nat), k + n = a.length → ∃ o, lp (tollwayref01_Before_L1_step a b) k = some o := by
    intro n
    induction n with
    | zero =>
      intro k hk
      refine ⟨.inr (), lp_end ?_⟩
      unfold tollwayref01_Before_L1_step
      exact ite_f (by omega) rfl
    | succ n ih =>
      intro k hk
      have hlt : k < a.length := by omega
      by_cases hb : k < b.length
      · have ha := List.getElem?_eq_getElem hlt
        have hb2 := List.getElem?_eq_getElem hb
        by_cases he : (a[k].toNat : Int) = (b[k].toNat : Int)
        · obtain ⟨o, ho⟩ := ih (k + 1) (by omega)
          refine ⟨o, ?_⟩
          rw [lp_go (s' := k + 1)]
          · exact ho
          · unfold tollwayref01_Before_L1_step
            exact ite_t (by omega) (ite_t (by omega) (bind_i ha (bind_i hb2 (ite_t he (guard_i (inR_i64.2 (by omega)) rfl)))))
        · refine ⟨.inl (decide ((a[k].toNat : Int) < (b[k].toNat : Int))), lp_end ?_⟩
          · unfold tollwayref01_Before_L1_step
            exact ite_t (by omega) (ite_t (by omega) (bind_i ha (bind_i hb2 (ite_f he rfl))))
      · refine ⟨.inr (), lp_end ?_⟩
        unfold tollwayref01_Before_L1_step
        exact ite_t (by omega) (ite_f (by omega) rfl)
  obtain ⟨o, ho⟩ := main a.length 0 (by omega)
  unfold tollwayref01_Before
  cases o with
  | inl r => exact ⟨r, bind_i ho rfl⟩
  | inr u => exact ⟨_, bind_i ho rfl⟩
theorem numbers_eq (a b : Int) : ∃ n, tollwayref17_numbers a b = some n ∧ decide (n = 0) = decide (a = b) := by
  unfold tollwayref17_numbers
  by_cases h1 : a < b
  · exact ⟨-1, ite_t h1 rfl, by simp; omega⟩
  · by_cases h2 : a > b
    · exact ⟨1, ite_f h1 (ite_t h2 rfl), by simp; omega⟩
    · exact ⟨0, ite_f h1 (ite_f h2 rfl), by simp; omega⟩
theorem texts_eq2 (a b : List UInt8) (h : a.length ≤ 1000000000000000) : ∃ n, tollwayref17_texts a b = some n ∧ decide (n = 0) = decide (a = b) := by
  unfold tollwayref17_texts
  by_cases h1 : a = b
  · exact ⟨0, ite_t h1 rfl, by simp [h1]⟩
  · obtain ⟨r, hr⟩ := before_tot a b h
    by_cases h2 : r = true
    · exact ⟨-1, ite_f h1 (bind_i hr (ite_t h2 rfl)), by simp [h1]⟩
    · exact ⟨1, ite_f h1 (bind_i hr (ite_f h2 rfl)), by simp [h1]⟩
theorem source_eq (a b : Tapi_Source) (h : a.Device.length ≤ 1000000000000000) : ∃ n, tollwayref17_Sources a b = some n ∧ decide (n = 0) = pS a b := by
  unfold tollwayref17_Sources pS
  by_cases h1 : a.Device = b.Device
  · obtain ⟨n, h2, h3⟩ := numbers_eq a.Seq b.Seq
    exact ⟨n, ite_t h1 (bind_i h2 rfl), by rw [h3]; simp [h1]; rfl⟩
  · obtain ⟨n, h2, h3⟩ := texts_eq2 a.Device b.Device h
    exact ⟨n, ite_f h1 (bind_i h2 rfl), by rw [h3]; simp [h1]⟩
theorem lists_eq (a b : List Tapi_Source) (h : a.length ≤ 1000000000000000) (hd : ∀ x ∈ a, x.Device.length ≤ 1000000000000000) : ∃ n, tollwayref17_lists a b = some n ∧ decide (n = 0) = (decide ((↑a.length : Int) = ↑b.length) && all2 pS a b) := by
  have main : ∀ (n k : Nat), k + n = a.length → ∃ o, lp (tollwayref17_lists_L1_step a b) k = some o ∧ ((∃ c, o = .inl c ∧ c ≠ 0 ∧ all2 pS (a.drop k) (b.drop k) = false) ∨ (o = .inr () ∧ all2 pS (a.drop k) (b.drop k) = true)) := by
    intro n
    induction n with
    | zero =>
      intro k hk
      refine ⟨.inr (), lp_end ?_, .inr ⟨rfl, ?_⟩⟩
      · unfold tollwayref17_lists_L1_step
        exact ite_f (by omega) rfl
      · rw [List.drop_eq_nil_of_le (show a.length ≤ k by omega)]; cases b.drop k <;> rfl
    | succ n ih =>
      intro k hk
      have hlt : k < a.length := by omega
      have ha := List.getElem?_eq_getElem hlt
      by_cases hb : k < b.length
      · have hb2 := List.getElem?_eq_getElem hb
        obtain ⟨c, h1, h2⟩ := source_eq a[k] b[k] (hd _ (List.getElem_mem hlt))
        rw [List.drop_eq_getElem_cons hlt, List.drop_eq_getElem_cons hb]
        simp only [all2]
        by_cases hc : c = 0
        · obtain ⟨o, h3, h4⟩ := ih (k + 1) (by omega)
          rw [decide_eq_true hc] at h2
          refine ⟨o, ?_, by rw [← h2, Bool.true_and]; exact h4⟩
          rw [lp_go (s' := k + 1)]
          · exact h3
          · unfold tollwayref17_lists_L1_step
            exact ite_t (by omega) (ite_t (by omega) (bind_i ha (bind_i hb2 (bind_i h1 (ite_t hc (guard_i (inR_i64.2 (by omega)) rfl))))))
        · rw [decide_eq_false hc] at h2
          refine ⟨.inl c, lp_end ?_, .inl ⟨c, rfl, hc, by rw [← h2]; rfl⟩⟩
          unfold tollwayref17_lists_L1_step
          exact ite_t (by omega) (ite_t (by omega) (bind_i ha (bind_i hb2 (bind_i h1 (ite_f hc rfl)))))
      · refine ⟨.inr (), lp_end ?_, .inr ⟨rfl, ?_⟩⟩
        · unfold tollwayref17_lists_L1_step
          exact ite_t (by omega) (ite_f (by omega) rfl)
        · rw [List.drop_eq_nil_of_le (show b.length ≤ k by omega)]; cases a.drop k <;> rfl
  obtain ⟨o, h1, h2⟩ := main a.length 0 (by omega)
  simp only [List.drop_zero] at h2
  unfold tollwayref17_lists
  rcases h2 with ⟨c, rfl, h3, h4⟩ | ⟨rfl, h4⟩
  · exact ⟨c, bind_i h1 rfl, by rw [h4, decide_eq_false h3]; simp⟩
  · obtain ⟨n, h5, h6⟩ := numbers_eq (↑a.length : Int) (↑b.length : Int)
    exact ⟨n, bind_i h1 (bind_i h5 rfl), by rw [h6, h4, Bool.and_true]⟩
theorem firstNot (L : List Int) (hL : L.length ≤ 100) : ∀ (n k : Nat), k + n = L.length → ∃ o, lp tollwayref17_Compare_L17_step (k, L) = some o ∧ ((∃ q, o = .inl q ∧ q.1 ≠ 0 ∧ (L.drop k).all (fun x => decide (x = 0)) = false) ∨ (∃ q, o = .inr q ∧ (L.drop k).all (fun x => decide (x = 0)) = true))
  | 0, k, hk => by
    have hk : k = L.length := by omega
    subst hk
    refine ⟨.inr L, lp_end ?_, .inr ⟨L, rfl, by simp⟩⟩
    unfold tollwayref17_Compare_L17_step
    exact ite_f (by omega) rfl
  | n + 1, k, hk => by
    have hlt : k < L.length := by omega
    have ha := List.getElem?_eq_getElem hlt
    rw [List.drop_eq_getElem_cons hlt, List.all_cons]
    by_cases hc : L[k] = 0
    · obtain ⟨o, h1, h2⟩ := firstNot L hL n (k + 1) (by omega)
      refine ⟨o, ?_, by rw [decide_eq_true hc, Bool.true_and]; exact h2⟩
      rw [lp_go (s' := (k + 1, L))]
      · exact h1
      · unfold tollwayref17_Compare_L17_step
        exact ite_t (by omega) (bind_i ha (ite_t hc (guard_i (inR_i64.2 (by omega)) rfl)))
    · refine ⟨.inl (L[k], L), lp_end ?_, .inl ⟨_, rfl, hc, by rw [decide_eq_false hc]; rfl⟩⟩
      unfold tollwayref17_Compare_L17_step
      exact ite_t (by omega) (bind_i ha (ite_f hc rfl))
/-- what is asked of a passage -/
structure FitP (x : Tapi_Passage) : Prop where
  id : x.ID.length ≤ 1000000000000000
  pt : x.Point.length ≤ 1000000000000000
  tag : x.Tag.length ≤ 1000000000000000
  pl : x.Plate.length ≤ 1000000000000000
  src : x.Sources.length ≤ 1000000000000000
  dev : ∀ s ∈ x.Sources, s.Device.length ≤ 1000000000000000
theorem one_eq (x y : Tapi_Passage) (f : FitP x) : tollwayref17_One x y = some (pP x y) := by
  obtain ⟨n1, a1, b1⟩ := numbers_eq x.Time y.Time
  obtain ⟨n2, a2, b2⟩ := texts_eq2 x.Point y.Point f.pt
  obtain ⟨n3, a3, b3⟩ := texts_eq2 x.ID y.ID f.id
  obtain ⟨n4, a4, b4⟩ := texts_eq2 x.Tag y.Tag f.tag
  obtain ⟨n5, a5, b5⟩ := texts_eq2 x.Plate y.Plate f.pl
  obtain ⟨n6, a6, b6⟩ := numbers_eq x.Class y.Class
  obtain ⟨n7, a7, b7⟩ := numbers_eq x.Score y.Score
  obtain ⟨n8, a8, b8⟩ := lists_eq x.Sources y.Sources f.src f.dev
  obtain ⟨o, h1, h2⟩ := firstNot [n1, n2, n3, n4, n5, n6, n7, n8] (by simp) 8 0 rfl
  rw [List.drop_zero] at h2
  have hall : ([n1, n2, n3, n4, n5, n6, n7, n8] : List Int).all (fun x => decide (x = 0)) = pP x y := by
    simp only [List.all_cons, List.all_nil, Bool.and_true, b1, b2, b3, b4, b5, b6, b7, b8]
    unfold pP
    rw [Bool.eq_iff_iff]
    simp only [Bool.and_eq_true]
    constructor
    · rintro ⟨c1, c2, c3, c4, c5, c6, c7, c8, c9⟩; exact ⟨c3, c2, c1, c4, c5, c6, c7, c8, c9⟩
    · rintro ⟨c1, c2, c3, c4, c5, c6, c7, c8, c9⟩; exact ⟨c3, c2, c1, c4, c5, c6, c7, c8, c9⟩
  rw [hall] at h2
  unfold tollwayref17_One tollwayref17_Compare
  rcases h2 with ⟨q, rfl, h3, h4⟩ | ⟨q, rfl, h4⟩
  · refine bind_i (v := q.1) (bind_i a1 (bind_i a2 (bind_i a3 (bind_i a4 (bind_i a5 (bind_i a6 (bind_i a7 (bind_i a8 (bind_i h1 rfl))))))))) ?_
    rw [h4]; simp [h3]
  · refine bind_i (v := 0) (bind_i a1 (bind_i a2 (bind_i a3 (bind_i a4 (bind_i a5 (bind_i a6 (bind_i a7 (bind_i a8 (bind_i h1 rfl))))))))) ?_
    rw [h4]; rfl
/-! lists -/
def pR (x y : Tapi_Reject) : Bool := ((x.D.Device == y.D.Device) && ((x.D.Seq == y.D.Seq) && ((x.D.Time == y.D.Time) && ((x.D.Tag == y.D.Tag) && ((x.D.Plate == y.D.Plate) && ((x.D.Axles == y.D.Axles) && ((x.D.Score == y.D.Score) && true))))))) && ((x.Why == y.Why) && true)
def pY (x y : Tapi_Stay) : Bool := (x.ID == y.ID) && ((x.Zone == y.Zone) && ((x.Plate == y.Plate) && (((x.Time.From == y.Time.From) && ((x.Time.To == y.Time.To) && true)) && true)))
def pE (x y : Tapi_Exclusion) : Bool := (x.ID == y.ID) && ((x.Why == y.Why) && true)
def lenB {α : Type} (p : α → α → Bool) (a b : List α) : Bool := decide ((↑a.length : Int) = ↑b.length) && all2 p a b
theorem lenB_refl {α : Type} {p : α → α → Bool} (h : ∀ x, p x x = true) (l : List α) : lenB p l l = true := by unfold lenB; rw [all2_refl h]; simp
structure FitR (r : Tapi_Result) : Prop where
  p : r.Passages.length ≤ 60
  j : r.Rejects.length ≤ 60
  t : r.Trips.length ≤ 60
  y : r.Stays.length ≤ 60
  c : r.Charges.length ≤ 60
  e : r.Exclusions.length ≤ 60
  ps : ∀ x ∈ r.Passages, FitP x
  ts : ∀ x ∈ r.Trips, x.Stops.length ≤ 1000000000000000
  cs : ∀ x ∈ r.Charges, x.Lines.length ≤ 1000000000000000
theorem rP (a b : Tapi_Result) (f : FitR a) : tollwayref17_Same a.Passages b.Passages = some (lenB pP a.Passages b.Passages) :=
  and_chain fun hl => cut_i (lp_all0 (p := pP) hl (fun k u v hu hv => by
      have hk := get_lt hu
      have hp := f.p
      unfold tollwayref17_Same_L2_step
      refine ite_t (by omega) (bind_i hu (bind_i hv (bind_i (one_eq u v (f.ps u (List.mem_of_getElem? hu))) ?_)))
      cases hp : pP u v with
      | true => exact ite_t rfl (guard_i (inR_i64.2 (by omega)) rfl)
      | false => exact ite_f (by simp) rfl) (by
      unfold tollwayref17_Same_L2_step
      exact ite_f (by omega) rfl)) rfl rfl
theorem rR (a b : Tapi_Result) (f : FitR a) : tollwayref16_SameRejects a.Rejects b.Rejects = some (lenB pR a.Rejects b.Rejects) :=
  and_chain fun hl => cut_i (lp_all0 (p := pR) hl (fun k u v hu hv => by
      have hk := get_lt hu
      have hp := f.j
      unfold tollwayref16_SameRejects_L2_step
      refine ite_t (by omega) (bind_i hu (bind_i hv ?_))
      cases hp : pR u v with
      | true => exact ite_t hp (guard_i (inR_i64.2 (by omega)) rfl)
      | false => exact ite_f (by unfold pR at hp; rw [hp]; simp) rfl) (by
      unfold tollwayref16_SameRejects_L2_step
      exact ite_f (by omega) rfl)) rfl rfl
theorem rT (a b : Tapi_Result) (f : FitR a) : tollwayref21_Same a.Trips b.Trips = some (lenB pT a.Trips b.Trips) :=
  and_chain fun hl => cut_i (lp_all0 (p := pT) hl (fun k u v hu hv => by
      have hk := get_lt hu
      have hp := f.t
      unfold tollwayref21_Same_L2_step
      refine ite_t (by omega) (bind_i hu (bind_i hv (bind_i (t_eq u v (f.ts u (List.mem_of_getElem? hu))) ?_)))
      cases hp : pT u v with
      | true => exact ite_t rfl (guard_i (inR_i64.2 (by omega)) rfl)
      | false => exact ite_f (by simp) rfl) (by
      unfold tollwayref21_Same_L2_step
      exact ite_f (by omega) rfl)) rfl rfl
theorem rY (a b : Tapi_Result) (f : FitR a) : tollwayref47_SameStays a.Stays b.Stays = some (lenB pY a.Stays b.Stays) :=
  and_chain fun hl => cut_i (lp_all0 (p := pY) hl (fun k u v hu hv => by
      have hk := get_lt hu
      have hp := f.y
      unfold tollwayref47_SameStays_L2_step
      refine ite_t (by omega) (bind_i hu (bind_i hv ?_))
      cases hp : pY u v with
      | true => exact ite_t hp (guard_i (inR_i64.2 (by omega)) rfl)
      | false => exact ite_f (by unfold pY at hp; rw [hp]; simp) rfl) (by
      unfold tollwayref47_SameStays_L2_step
      exact ite_f (by omega) rfl)) rfl rfl
theorem rC (a b : Tapi_Result) (f : FitR a) : tollwayref31_Same a.Charges b.Charges = some (lenB pC a.Charges b.Charges) :=
  and_chain fun hl => cut_i (lp_all0 (p := pC) hl (fun k u v hu hv => by
      have hk := get_lt hu
      have hp := f.c
      unfold tollwayref31_Same_L2_step
      refine ite_t (by omega) (bind_i hu (bind_i hv (bind_i (ch_eq u v (f.cs u (List.mem_of_getElem? hu))) ?_)))
      cases hp : pC u v with
      | true => exact ite_t rfl (guard_i (inR_i64.2 (by omega)) rfl)
      | false => exact ite_f (by simp) rfl) (by
      unfold tollwayref31_Same_L2_step
      exact ite_f (by omega) rfl)) rfl rfl
theorem rE (a b : Tapi_Result) (f : FitR a) : tollwayref21_SameExclusions a.Exclusions b.Exclusions = some (lenB pE a.Exclusions b.Exclusions) :=
  and_chain fun hl => cut_i (lp_all0 (p := pE) hl (fun k u v hu hv => by
      have hk := get_lt hu
      have hp := f.e
      unfold tollwayref21_SameExclusions_L2_step
      refine ite_t (by omega) (bind_i hu (bind_i hv ?_))
      cases hp : pE u v with
      | true => exact ite_t hp (guard_i (inR_i64.2 (by omega)) rfl)
      | false => exact ite_f (by unfold pE at hp; rw [hp]; simp) rfl) (by
      unfold tollwayref21_SameExclusions_L2_step
      exact ite_f (by omega) rfl)) rfl rfl
/-- the same passages, in the program's words -/
noncomputable def qSame (a b : Tapi_Result) : Option Bool :=
  if (↑a.Passages.length : Int) = (↑b.Passages.length : Int) then (lp (batch_Same_L2_step a b) (0 : Nat)).bind fun qq => match qq with | Sum.inl _ => some false | Sum.inr _ => some true
  else some false
theorem qP (a b : Tapi_Result) (f : FitR a) : qSame a b = some (lenB pP a.Passages b.Passages) :=
  and_chain fun hl => cut_i (lp_all0 (p := pP) hl (fun k u v hu hv => by
      have hk := get_lt hu
      have hp := f.p
      unfold batch_Same_L2_step
      refine ite_t (by omega) (bind_i hu (bind_i hv (bind_i (c1_eq u v (f.ps u (List.mem_of_getElem? hu)).src) ?_)))
      cases hp : pP u v with
      | true => exact ite_t rfl (guard_i (inR_i64.2 (by omega)) rfl)
      | false => exact ite_f (by simp) rfl) (by
      unfold batch_Same_L2_step
      exact ite_f (by omega) rfl)) rfl rfl
def sm (a b : Tapi_Result) : Bool := lenB pP a.Passages b.Passages && (lenB pR a.Rejects b.Rejects && (lenB pT a.Trips b.Trips && (lenB pY a.Stays b.Stays && (lenB pC a.Charges b.Charges && lenB pE a.Exclusions b.Exclusions))))
theorem sm_refl (a : Tapi_Result) : sm a a = true := by
  unfold sm
  rw [lenB_refl pP_refl, lenB_refl (fun x => by simp [pR]), lenB_refl pT_refl, lenB_refl (fun x => by simp [pY]), lenB_refl pC_refl, lenB_refl (fun x => by simp [pE])]
  rfl
/-- a part of a comparison, and what comes behind it -/
theorem seg_i {p : Prop} [Decidable p] {o : Option (Unit ⊕ Unit)} {f g : (Unit ⊕ Unit) → Option Bool} {b : Bool} {rest : Option Bool} {c : Bool} (h : (if p then o.bind f else some false) = some b) (hf1 : f (.inl ()) = some false) (hf2 : f (.inr ()) = some true)
    (hg1 : g (.inl ()) = some false) (hg2 : g (.inr ()) = rest) (hr : rest = some c) : (if p then o.bind g else some false) = some (b && c) := by
  by_cases hp : p
  · rw [if_pos hp] at h ⊢
    cases o with
    | none => cases h
    | some q =>
      cases q with
      | inl u =>
        have h2 : f (.inl ()) = some b := h
        rw [hf1] at h2
        cases h2
        exact hg1
      | inr u =>
        have h2 : f (.inr ()) = some b := h
        rw [hf2] at h2
        cases h2
        exact hg2.trans hr
  · rw [if_neg hp] at h ⊢
    cases h
    rfl
theorem same_eq (a b : Tapi_Result) (f : FitR a) : batch_Same a b = some (sm a b) :=
  seg_i (qP a b f) rfl rfl rfl rfl (seg_i (rR a b f) rfl rfl rfl rfl (seg_i (rT a b f) rfl rfl rfl rfl (seg_i (rY a b f) rfl rfl rfl rfl (seg_i (rC a b f) rfl rfl rfl rfl (rE a b f)))))
theorem rseg {o r : Option Bool} {b c : Bool} (h : o = some b) (hr : r = some c) : (o.bind fun x => if x = true then r else some false) = some (b && c) := by
  rw [h]
  cases b
  · rfl
  · exact hr
theorem rsame_eq (a b : Tapi_Result) (f : FitR a) : tollwayref47_Same a b = some (sm a b) :=
  rseg (rP a b f) (rseg (rR a b f) (rseg (rT a b f) (rseg (rY a b f) (rseg (rC a b f) (bind_i (rE a b f) rfl)))))
/-- what is asked of a result, whatever its lists' lengths -/
structure FitQ (r : Tapi_Result) : Prop where
  p : r.Passages.length ≤ 1000000000000000
  j : r.Rejects.length ≤ 1000000000000000
  t : r.Trips.length ≤ 1000000000000000
  y : r.Stays.length ≤ 1000000000000000
  c : r.Charges.length ≤ 1000000000000000
  e : r.Exclusions.length ≤ 1000000000000000
  ps : ∀ x ∈ r.Passages, FitP x
  ts : ∀ x ∈ r.Trips, x.ID.length ≤ 1000000000000000 ∧ x.Stops.length ≤ 8796093022000
  cs : ∀ x ∈ r.Charges, x.Lines.length ≤ 1000000000000000
  why : ∀ x ∈ r.Exclusions, InR .i64 x.Why
theorem batchSame_true (a b : Tapi_Result) (id : List UInt8) (fa : FitQ a) (fb : FitQ b) : tollwaylaw47_BatchSame a b id = some true := by
  have a1 := fa.p; have a2 := fa.j; have a3 := fa.t; have a4 := fa.y; have a5 := fa.c; have a6 := fa.e
  have b1 := fb.p; have b2 := fb.j; have b3 := fb.t; have b4 := fb.y; have b5 := fb.c; have b6 := fb.e
  unfold tollwaylaw47_BatchSame
  refine guard_i (inR_i64.2 (by omega)) (guard_i (inR_i64.2 (by omega)) (bind_i rfl (guard_i (inR_i64.2 (by omega)) (guard_i (inR_i64.2 (by omega)) (guard_i (inR_i64.2 (by omega)) (bind_i rfl ?_))))))
  by_cases h1 : (↑a.Passages.length : Int) + ↑a.Rejects.length + ↑a.Trips.length + ↑a.Stays.length + ↑a.Charges.length + ↑a.Exclusions.length > 60
  · exact ite_t h1 rfl
  refine ite_f h1 ?_
  refine guard_i (inR_i64.2 (by omega)) (guard_i (inR_i64.2 (by omega)) (bind_i rfl (guard_i (inR_i64.2 (by omega)) (guard_i (inR_i64.2 (by omega)) (guard_i (inR_i64.2 (by omega)) (bind_i rfl ?_))))))
  by_cases h2 : (↑b.Passages.length : Int) + ↑b.Rejects.length + ↑b.Trips.length + ↑b.Stays.length + ↑b.Charges.length + ↑b.Exclusions.length > 60
  · exact ite_t h2 rfl
  refine ite_f h2 ?_
  have fo : FitO a := ⟨by omega, by omega, by omega, by omega, fa.ts, fa.why⟩
  have fr : FitR a := ⟨by omega, by omega, by omega, by omega, by omega, by omega, fa.ps, fun x hx => by have := (fa.ts x hx).2; omega, fa.cs⟩
  have hlen : (sortS (fatesB a id)).length ≤ 120 := by
    rw [sortS_length]
    have h3 := foldl_le (hitE id) (fun x : Tapi_Exclusion => [120, 58] ++ Go.Lib.itoa x.Why) a.Exclusions (a.Charges.foldl (fun b x => if hitC a id x = true then b ++ [x.Key] else b) [])
    have h4 := foldl_le (hitC a id) (fun x : Tapi_Charge => x.Key) a.Charges []
    simp only [List.length_nil] at h4
    have : (fatesB a id).length = (a.Exclusions.foldl (fun b x => if hitE id x = true then b ++ [[120, 58] ++ Go.Lib.itoa x.Why] else b) (a.Charges.foldl (fun b x => if hitC a id x = true then b ++ [x.Key] else b) [])).length := rfl
    omega
  refine bind_i (fates_eq a id fo) (bind_i (rfates_eq a id fo) (ite_t rfl ?_))
  refine bind_i (lp_all0 (p := fun x y => decide (x = y)) (l := sortS (fatesB a id)) (m := sortS (fatesB a id)) rfl (fun k x y hx hy => ?_) ?_) ?_
  · have hk := get_lt hx
    unfold tollwaylaw47_BatchSame_L30_step
    refine ite_t (by omega) (bind_i hx (bind_i hy ?_))
    by_cases he : x = y
    · rw [decide_eq_true he]; exact ite_t he (guard_i (inR_i64.2 (by omega)) rfl)
    · rw [decide_eq_false he]; exact ite_f he rfl
  · unfold tollwaylaw47_BatchSame_L30_step
    exact ite_f (by omega) rfl
  · rw [all2_refl (fun x => by simp)]
    exact bind_i (same_eq a b fr) (bind_i (rsame_eq a b fr) (ite_t rfl (bind_i (same_eq a a fr) (ite_t (sm_refl a) rfl))))
end Go.Proofs.YtnlaiahcemckkaaGreatDoor.Av
