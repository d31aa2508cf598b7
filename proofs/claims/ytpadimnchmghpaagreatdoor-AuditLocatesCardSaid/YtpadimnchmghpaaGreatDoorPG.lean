/- Few charges; the reference's Locate; what is missing. (Plain.) -/
import Derived.Test.YtpadimnchmghpaaGreatDoorPF
import Derived.Test.YtpadimnchmghpaaGreatDoorL0
set_option linter.unusedVariables false
set_option linter.unusedSimpArgs false
set_option maxHeartbeats 1000000
namespace Go.Proofs.YtpadimnchmghpaaGreatDoor.Av
open Go Go.Proofs
theorem lp_all {α : Type} {l : List α} {p : α → Prop} [DecidablePred p] {step : Nat → Option (Nat ⊕ (Unit ⊕ Unit))} (h1 : ∀ k x, l[k]? = some x → p x → step k = some (.inl (k + 1))) (h2 : ∀ k x, l[k]? = some x → ¬ p x → step k = some (.inr (.inl ())))
    (h3 : step l.length = some (.inr (.inr ()))) : lp step 0 = some (if ∀ x ∈ l, p x then .inr () else .inl ()) := by
  have key := lp_foldE0 (l := l) (mk := fun (_ : Unit) k => k) (step := step) (g := fun _ x => if p x then .inr () else .inl (.inl ())) (out := fun _ => .inr ()) (fun _ _ => True)
    (fun k x u hx _ => ⟨by by_cases hp : p x <;> simp only [hp, if_true, if_false] <;> first | exact h1 k x hx hp | exact h2 k x hx hp, fun _ _ => trivial⟩) (fun u _ => h3) (a := ()) trivial
  rw [key]
  congr 1
  clear key h1 h2 h3
  induction l with
  | nil => simp [foldE]
  | cons x l ih =>
    unfold foldE
    by_cases hp : p x
    · simp only [hp, if_true]
      rw [ih]
      simp [hp]
    · simp [hp]
instance (x : Tapi_Charge) : Decidable (ChF x) := by unfold ChF; infer_instance
instance (x : Tapi_Charge) : Decidable (ChW x) := by unfold ChW; infer_instance
def ChS (x : Tapi_Charge) : Prop := x.Lines.length ≤ 9223372036854775807
theorem few_tot {l : List Tapi_Charge} (hl : l.length ≤ 9223372036854775807) (hs : ∀ x ∈ l, ChS x) : ∃ b, tollwaylaw50_few l = some b ∧ (b = true → l.length ≤ 20 ∧ ∀ x ∈ l, ChF x) := by
  have inner : ∀ (k3 : Nat) (x : Tapi_Charge), l[k3]? = some x → lp (tollwaylaw50_few_L32_step l k3) 0 = some (if ∀ y ∈ x.Lines, y.Text.length ≤ 80 then .inr () else .inl ()) := fun k3 x hx => by
    have hlx : x.Lines.length ≤ 9223372036854775807 := hs x (List.mem_of_getElem? hx)
    refine lp_all (p := fun y : Tapi_Line => y.Text.length ≤ 80) (fun k y hy hp => ?_) (fun k y hy hp => ?_) ?_
    · have hk := (List.getElem?_eq_some_iff.1 hy).1
      exact bind_i hx (ite_t (by omega) (bind_i hy (ite_f (by omega) (guard_i (by rw [inR_i64]; omega) rfl))))
    · have hk := (List.getElem?_eq_some_iff.1 hy).1
      exact bind_i hx (ite_t (by omega) (bind_i hy (ite_t (by omega) rfl)))
    · exact bind_i hx (ite_f (by omega) rfl)
  have outer : lp (tollwaylaw50_few_L1_step l) 0 = some (if ∀ x ∈ l, ChF x then .inr () else .inl ()) := by
    refine lp_all (fun k x hx hp => ?_) (fun k x hx hp => ?_) (ite_f (by omega) rfl)
    · have hk := (List.getElem?_eq_some_iff.1 hx).1
      obtain ⟨p1, p2, p3, p4, p5⟩ := hp
      have hin := inner k x hx
      rw [if_pos p5] at hin
      exact ite_t (by omega) (bind_i hx (ite_f (by omega) (ite_f (by omega) (ite_f (by omega) (ite_f (by omega) (bind_i hin (guard_i (by rw [inR_i64]; omega) rfl)))))))
    · have hk := (List.getElem?_eq_some_iff.1 hx).1
      refine ite_t (by omega) (bind_i hx ?_)
      by_cases q1 : x.Key.length ≤ 80
      · refine ite_f (by omega) ?_
        by_cases q2 : x.Vehicle.length ≤ 80
        · refine ite_f (by omega) ?_
          by_cases q3 : x.System.length ≤ 80
          · refine ite_f (by omega) ?_
            by_cases q4 : x.Lines.length ≤ 8
            · have hin := inner k x hx
              rw [if_neg (fun q5 => hp ⟨q1, q2, q3, q4, q5⟩)] at hin
              exact ite_f (by omega) (bind_i hin rfl)
            · exact ite_t (by omega) rfl
          · exact ite_t (by omega) rfl
        · exact ite_t (by omega) rfl
      · exact ite_t (by omega) rfl
  unfold tollwaylaw50_few
  by_cases h : ∀ x ∈ l, ChF x
  · refine ⟨decide (l.length ≤ 20), bind_i outer ?_, fun hb => ⟨of_decide_eq_true hb, h⟩⟩
    rw [if_pos h]
    simp only [Option.some.injEq]
    congr 1
    simp only [eq_iff_iff]; omega
  · refine ⟨false, bind_i outer ?_, fun hb => by cases hb⟩
    rw [if_neg h]
/-! ### the reference -/
def zeroC : Tapi_Charge := ⟨[], [], [], 0, 0, [], 0⟩
def ofR (l : List Tapi_Charge) (k : Str) : Tapi_Charge × Bool := match ofK l k with | some x => (x, true) | none => (zeroC, false)
theorem Of_eq {l : List Tapi_Charge} (k : Str) (hl : l.length ≤ 4294967296) : tollwayref50_Of l k = some (ofR l k) := by
  have key := lp_foldE0 (l := l) (mk := fun (_ : Unit) k => k) (step := tollwayref50_Of_L1_step l k) (g := fun _ x => if x.Key = k then .inl (.inl (x.Key, x.Vehicle, x.System, x.Class, x.Time, x.Lines, x.Cents)) else .inr ()) (out := fun _ => .inr ()) (fun _ _ => True)
    (fun i x u hx _ => by
      have hk := (List.getElem?_eq_some_iff.1 hx).1
      refine ⟨ite_t (by omega) (bind_i hx ?_), fun _ _ => trivial⟩
      by_cases h : x.Key = k
      · simp only [h, if_true]
      · simp only [h, if_false]; exact guard_i (by rw [inR_i64]; omega) rfl) (fun u _ => ite_f (by omega) rfl) (a := ()) trivial
  have hf : foldE (fun (_ : Unit) (x : Tapi_Charge) => if x.Key = k then .inl (.inl (x.Key, x.Vehicle, x.System, x.Class, x.Time, x.Lines, x.Cents)) else .inr ()) (fun _ => .inr ()) l () = match ofK l k with | some x => Sum.inl (x.Key, x.Vehicle, x.System, x.Class, x.Time, x.Lines, x.Cents) | none => Sum.inr () := by
    clear key
    induction l with
    | nil => rfl
    | cons x l ih =>
      unfold foldE
      rw [ofK_cons]
      by_cases h : x.Key = k
      · simp [h]
      · simp only [h, if_false]
        exact ih (by simp at hl; omega)
  unfold tollwayref50_Of
  rw [hf] at key
  refine bind_i key ?_
  unfold ofR
  cases ofK l k <;> rfl
theorem refLeafK_eq {l : List Tapi_Charge} (hl : ChL l) (k : Str) : tollwayref50_leaf l k = some (leafK l k) := by
  have h1 := hl.1
  unfold tollwayref50_leaf
  refine bind_i (Of_eq k (by omega)) ?_
  unfold ofR leafK
  cases h : ofK l k with
  | none => exact ite_f (by simp) rfl
  | some x =>
    obtain ⟨hm, _⟩ := ofK_mem h
    have hd := descr_len (hl.2.1 x hm) (hl.2.2 x hm)
    exact ite_t rfl (bind_i (Describe_eq (hl.2.1 x hm) (hl.2.2 x hm)) (bind_i (refHash_eq (show (descr x).length ≤ 4294967296 by omega)) rfl))
theorem find_eq {a b : List Tapi_Charge} (ha : a.length ≤ 20) (hb : b.length ≤ 20) (k : Str) : tollwayref50_find a b k = some (findR a b k) := by
  unfold tollwayref50_find
  refine bind_i (Of_eq k (by omega)) (bind_i (Of_eq k (by omega)) (bind_i (refDay_eq _) ?_))
  unfold ofR findR timeK
  cases ofK b k with
  | some y =>
    cases ofK a k <;> exact ite_t rfl (bind_i (refDay_eq _) rfl)
  | none =>
    cases ofK a k <;> exact ite_f (by simp) rfl
theorem keys_loop {l : List Tapi_Charge} {step : List Str × Nat → Option ((List Str × Nat) ⊕ List Str)} (hs : ∀ v k, step (v, k) = if (↑k : Int) < (↑l.length : Int) then (l[k]?).bind fun x => (tollwayref07_Insert v x.Key).bind fun r => if InR .i64 ((↑k : Int) + 1) then some (Sum.inl (r, (k + 1))) else none else some (Sum.inr v))
    (hl : ChL l) {v : List Str} (hv : AscS v) (hvl : v.length ≤ 1000) : lp step (v, 0) = some (l.foldl (fun v x => insS v x.Key) v) := by
  have h20 := hl.1
  refine lp_foldl (l := l) (mk := fun (v : List Str) k => (v, k)) (step := step) (g := fun v x => insS v x.Key) (out := fun v => v) (fun k v => AscS v ∧ v.length ≤ 1000 + k) (fun k x v hx hI => ?_) (fun v _ => by rw [hs]; exact ite_f (by omega) rfl) (a := v) ⟨hv, by omega⟩
  have hk := (List.getElem?_eq_some_iff.1 hx).1
  have hf := (hl.2.2 x (List.mem_of_getElem? hx)).1
  have := insS_len v x.Key
  exact ⟨by rw [hs]; exact ite_t (by omega) (bind_i hx (bind_i (Insert_eq (by omega) (by omega) hI.1) (guard_i (by rw [inR_i64]; omega) rfl))), insS_asc hI.1, by omega⟩
theorem fold_asc : ∀ (l : List Tapi_Charge) {v : List Str}, AscS v → AscS (l.foldl (fun v x => insS v x.Key) v)
  | [], v, h => h
  | x :: l, v, h => fold_asc l (insS_asc h)
theorem fold_mem : ∀ (l : List Tapi_Charge) {v : List Str} {k : Str}, k ∈ l.foldl (fun v x => insS v x.Key) v ↔ k ∈ v ∨ (ofK l k).isSome = true
  | [], v, k => by simp [ofK]
  | x :: l, v, k => by
    rw [List.foldl_cons, fold_mem l, insS_mem, ofK_cons]
    by_cases h : x.Key = k
    · simp [h]
    · rw [if_neg h]
      have h2 : ¬ k = x.Key := fun e => h e.symm
      simp [h2]
theorem fold_len : ∀ (l : List Tapi_Charge) (v : List Str), (l.foldl (fun v x => insS v x.Key) v).length ≤ v.length + l.length
  | [], v => by simp
  | x :: l, v => by
    have := fold_len l (insS v x.Key)
    have := insS_len v x.Key
    rw [List.foldl_cons, List.length_cons]; omega
theorem Keys_eq {a b : List Tapi_Charge} (ha : ChL a) (hb : ChL b) : tollwayref50_Keys a b = some (ksR a b) := by
  have h1 := fold_len a []
  have h2 := ha.1
  unfold tollwayref50_Keys
  refine bind_i (keys_loop (fun _ _ => rfl) ha (v := []) List.Pairwise.nil (by simp)) (bind_i (keys_loop (fun _ _ => rfl) hb (fold_asc a List.Pairwise.nil) (by simp at h1; omega)) ?_)
  congr 1
  refine asc_unique (fold_asc b (fold_asc a List.Pairwise.nil)) (ksR_asc a b) fun k => ?_
  rw [fold_mem, fold_mem, ksR_mem]
  simp
theorem refLocate_eq {a b : List Tapi_Charge} (ha : ChL a) (hb : ChL b) : tollwayref50_Locate a b = some (locR a b) := by
  have hlen := ksR_len a b
  have ha1 := ha.1
  have hb1 := hb.1
  have hpl := places_len a b (by omega)
  obtain ⟨c, hdif⟩ := refDiffer_eq (a := (ksR a b).map (leafK a)) (b := (ksR a b).map (leafK b)) (fun x hx => by obtain ⟨k, _, rfl⟩ := List.mem_map.1 hx; exact leafK_R a k) (fun x hx => by obtain ⟨k, _, rfl⟩ := List.mem_map.1 hx; exact leafK_R b k) (by simp) (by simp; omega)
  unfold tollwayref50_Locate
  refine bind_i (Keys_eq ha hb) ?_
  have key := lp_foldl (l := ksR a b) (mk := fun (p : List Int × List Int) k => (k, p.1, p.2)) (step := tollwayref50_Locate_L3_step a b (ksR a b)) (g := fun p x => (p.1 ++ [leafK a x], p.2 ++ [leafK b x])) (out := fun p => p) (fun k p => p.1.length = k ∧ p.2.length = k)
    (fun k x p hx hI => by
      have hk := (List.getElem?_eq_some_iff.1 hx).1
      obtain ⟨i1, i2⟩ := hI
      exact ⟨ite_t (by omega) (bind_i hx (bind_i (refLeafK_eq ha x) (guard_i (by omega) (bind_i (refLeafK_eq hb x) (guard_i (by omega) (guard_i (by rw [inR_i64]; omega) rfl)))))), by simp [i1], by simp [i2]⟩)
    (fun p _ => ite_f (by omega) rfl) (a := ([], [])) ⟨rfl, rfl⟩
  have hfold : ∀ (ks : List Str) (p : List Int × List Int), ks.foldl (fun (p : List Int × List Int) x => (p.1 ++ [leafK a x], p.2 ++ [leafK b x])) p = (p.1 ++ ks.map (leafK a), p.2 ++ ks.map (leafK b)) := fun ks => by
    induction ks with
    | nil => intro p; simp
    | cons x ks ih => intro p; rw [List.foldl_cons, ih]; simp
  rw [hfold] at key
  refine bind_i key (bind_i (by simpa using hdif) ?_)
  refine bind_i (lp_foldl (l := placesR a b) (mk := fun (acc : List Tapi_Finding) k => (k, acc)) (step := tollwayref50_Locate_L26_step a b (ksR a b) ((placesR a b).map (fun (j : Nat) => (j : Int)), c)) (g := fun acc i => acc ++ [findR a b ((ksR a b).getD i [])]) (out := fun acc => acc) (fun k acc => acc.length = k)
    (fun k i acc hi hacc => ?_) (fun acc _ => ite_f (by simp) rfl) (a := []) rfl) ?_
  · have hk := (List.getElem?_eq_some_iff.1 hi).1
    have hlt := places_lt (List.mem_of_getElem? hi)
    have hget : ((placesR a b).map (fun (j : Nat) => (j : Int)))[k]? = some (i : Int) := by rw [List.getElem?_map, hi]; rfl
    have hks := getD_some (l := ksR a b) ([] : Str) hlt
    have e1 : Int.toNat (i : Int) = i := rfl
    exact ⟨ite_t (by rw [List.length_map]; omega) (bind_i hget (guard_i (by omega) (bind_i (by rw [e1]; exact hks) (bind_i (find_eq ha1 hb1 _) (guard_i (by omega) (guard_i (by rw [inR_i64]; omega) rfl)))))), by simp [hacc]⟩
  · rw [foldl_snocF]; rfl
theorem sameFind_refl {a : List Tapi_Finding} (h : a.length ≤ 4294967296) : tollwayref50_SameFindings a a = some true := by
  unfold tollwayref50_SameFindings
  refine ite_t rfl (bind_i (lp_all (l := a) (p := fun _ => True) (fun k x hx _ => ?_) (fun k x hx hp => absurd trivial hp) (ite_f (by omega) rfl)) ?_)
  · have hk := (List.getElem?_eq_some_iff.1 hx).1
    exact ite_t (by omega) (bind_i hx (bind_i hx (ite_t rfl (ite_t rfl (ite_t rfl (ite_t rfl (guard_i (by rw [inR_i64]; omega) rfl)))))))
  · simp
/-! ### what is missing -/
def lostV (m : List KC) (y : KC) : Int := if (getK Prod.fst m y.1).isSome = true then 0 else if y.2.Cents ≥ 0 then if y.2.Cents ≤ 1125899906842624 then y.2.Cents else 0 else 0
def sumV (m : List KC) : List KC → Int
  | [] => 0
  | y :: l => lostV m y + sumV m l
theorem lostV_le (m : List KC) (y : KC) : 0 ≤ lostV m y ∧ lostV m y ≤ 1125899906842624 := by
  unfold lostV
  split
  · omega
  · split
    · split <;> omega
    · omega
theorem lost_fold {m : List KC} : ∀ (l : List KC) (s : Int), 0 ≤ s → s + l.length * 1125899906842624 ≤ 9223372036854775807 → l.foldlM (lost_step m) s = some (s + sumV m l)
  | [], s, h0, h1 => by simp [sumV]
  | y :: l, s, h0, h1 => by
    have hv := lostV_le m y
    simp only [List.length_cons] at h1
    have hst : lost_step m s y = some (s + lostV m y) := by
      by_cases h : (getK Prod.fst m y.1).isSome = true
      · obtain ⟨q, hq⟩ := Option.isSome_iff_exists.1 h
        have e : lostV m y = 0 := by unfold lostV; rw [if_pos h]
        rw [e]
        exact ite_t h (bind_i hq (by rw [Int.add_zero]))
      · by_cases h2 : y.2.Cents ≥ 0
        · by_cases h3 : y.2.Cents ≤ 1125899906842624
          · have e : lostV m y = y.2.Cents := by unfold lostV; rw [if_neg h, if_pos h2, if_pos h3]
            rw [e] at hv ⊢
            exact ite_f h (ite_t h2 (ite_t h3 (guard_i (by rw [inR_i64]; omega) rfl)))
          · have e : lostV m y = 0 := by unfold lostV; rw [if_neg h, if_pos h2, if_neg h3]
            rw [e]
            exact ite_f h (ite_t h2 (ite_f h3 (by rw [Int.add_zero])))
        · have e : lostV m y = 0 := by unfold lostV; rw [if_neg h, if_neg h2]
          rw [e]
          exact ite_f h (ite_f h2 (by rw [Int.add_zero]))
    rw [List.foldlM_cons, hst]
    show l.foldlM (lost_step m) (s + lostV m y) = _
    rw [lost_fold l _ (by omega) (by omega)]
    congr 1
    simp only [sumV]; omega
theorem sumV_perm {m : List KC} {l l' : List KC} (h : l.Perm l') : sumV m l = sumV m l' := by
  induction h with
  | nil => rfl
  | cons x _ ih => simp only [sumV, ih]
  | swap x y l => simp only [sumV]; omega
  | trans _ _ ih1 ih2 => exact ih1.trans ih2
def lostR (a b : List Tapi_Charge) : Int := sumV (byK a) (byK b)
theorem Lost_eq {a b : List Tapi_Charge} (ha : a.length ≤ 20) (hb : b.length ≤ 20) : audit_Lost a b = some (lostR a b) := by
  unfold audit_Lost
  refine bind_i (byK_loop (by omega)) (bind_i (byK_loop (l := b) (by omega)) (bind_i (mlp_eq fun l' hp => ?_) rfl))
  have hl := byK_len b []
  have h2 := hp.length_eq
  simp only [List.length_nil, Nat.zero_add] at hl
  unfold byK at h2
  rw [lost_fold l' 0 (by omega) (by omega), sumV_perm hp, Int.zero_add]
  rfl
end Go.Proofs.YtpadimnchmghpaaGreatDoor.Av
