/- Trace: facts, Detection and Passage; the laws TraceDetections and TracePassages. -/
import Derived.Test.YtalobodhbbkgdabDoorPTr4
set_option linter.unusedVariables false
set_option linter.unusedSimpArgs false
namespace Go.Proofs.YtalobodhbbkgdabDoor.Av
/-- what a loop over a list that appends gives, with a start -/
theorem lp_flat0 {α γ ρ : Type} {l : List α} {step : Nat × List γ → Option ((Nat × List γ) ⊕ ρ)} {g : α → List γ} {out : List γ → ρ} (c : Nat) (a : List γ)
    (hg : ∀ x ∈ l, (g x).length ≤ c)
    (hstep : ∀ k x b, l[k]? = some x → x ∈ l → k < l.length → b.length ≤ a.length + c * k → step (k, b) = some (.inl (k + 1, b ++ g x)))
    (hend : ∀ b, b.length ≤ a.length + c * l.length → step (l.length, b) = some (.inr (out b))) : lp step (0, a) = some (out (a ++ l.flatMap g)) ∧ (a ++ l.flatMap g).length ≤ a.length + c * l.length := by
  have := lp_flat (l := l) (mk := fun b k => (k, b)) (step := step) (g := g) (out := out) a.length c hg hstep hend l.length 0 a (by omega) (by omega)
  simpa using this
def psgs (t : Tapi_Trip) : List (List UInt8) := t.Stops.flatMap fun s => if s.Passage = [] then [] else [s.Passage]
theorem passages_eq (t : Tapi_Trip) (h : t.Stops.length ≤ 40) : trip_Passages t = some (psgs t) := by
  have k1 := lp_flat0 (l := t.Stops) (step := trip_Passages_L1_step t) (g := fun s => if s.Passage = [] then [] else [s.Passage]) (out := fun a => a) 1 [] (fun x _ => by split <;> simp)
    (fun k x b hx hm hk hb => by
      unfold trip_Passages_L1_step
      refine ite_t (by omega) (bind_i hx ?_)
      by_cases hp : x.Passage = []
      · rw [if_pos hp, if_pos hp, List.append_nil]; exact guard_i (inR_i64.2 (by omega)) rfl
      · rw [if_neg hp, if_neg hp]; simp only [List.length_nil] at hb; exact guard_i (by omega) (guard_i (inR_i64.2 (by omega)) rfl))
    (fun b hb => by unfold trip_Passages_L1_step; exact ite_f (by omega) rfl)
  unfold trip_Passages
  exact bind_i k1.1 rfl
theorem psgs_len (t : Tapi_Trip) (h : t.Stops.length ≤ 40) : (psgs t).length ≤ 40 := by
  have k1 : ∀ l : List Tapi_Stop, (l.flatMap fun s => if s.Passage = [] then [] else [s.Passage]).length ≤ l.length := fun l => by
    induction l with
    | nil => simp
    | cons x l ih =>
      have h1 : (if x.Passage = [] then [] else [x.Passage]).length ≤ 1 := by split <;> simp
      rw [List.flatMap_cons, List.length_append, List.length_cons]; omega
  exact Nat.le_trans (k1 t.Stops) h
theorem rpassages_eq (t : Tapi_Trip) (h : t.Stops.length ≤ 40) : tollwayref21_Passages t = some (psgs t) := by
  have k1 := lp_flat0 (l := t.Stops) (step := tollwayref21_Passages_L1_step t) (g := fun s => if s.Passage = [] then [] else [s.Passage]) (out := fun a => a) 1 [] (fun x _ => by split <;> simp)
    (fun k x b hx hm hk hb => by
      unfold tollwayref21_Passages_L1_step
      refine ite_t (by omega) (bind_i hx ?_)
      by_cases hp : x.Passage = []
      · rw [if_pos hp, if_pos hp, List.append_nil]; exact guard_i (inR_i64.2 (by omega)) rfl
      · rw [if_neg hp, if_neg hp]; simp only [List.length_nil] at hb; exact guard_i (by omega) (guard_i (inR_i64.2 (by omega)) rfl))
    (fun b hb => by unfold tollwayref21_Passages_L1_step; exact ite_f (by omega) rfl)
  unfold tollwayref21_Passages
  exact bind_i k1.1 rfl
def amongB (t : Tapi_Trip) (id : List UInt8) : Bool := (psgs t).any fun q => decide (q = id)
theorem among_eq (t : Tapi_Trip) (h : t.Stops.length ≤ 40) (id : List UInt8) : tollwayref52_among t id = some (amongB t id) := by
  have hl := psgs_len t h
  have k1 := lp_find0 (l := psgs t) (step := tollwayref52_among_L3_step id (psgs t)) (fun q => decide (q = id)) (fun _ => ()) (fun k y hy hk => by
    unfold tollwayref52_among_L3_step
    refine ite_t (by omega) (bind_i hy ?_)
    by_cases hb : y = id
    · rw [decide_eq_true hb]; exact ite_t hb rfl
    · rw [decide_eq_false hb]; exact ite_f hb (guard_i (inR_i64.2 (by omega)) rfl)) (by unfold tollwayref52_among_L3_step; exact ite_f (by omega) rfl)
  unfold tollwayref52_among amongB
  refine bind_i (rpassages_eq t h) (bind_i k1 ?_)
  rw [← fidx_any (psgs t) 0]
  cases fidx (fun q => decide (q = id)) (psgs t) 0 <;> rfl
/-- the facts of a trip -/
def tripF (r : Tapi_Result) (id : List UInt8) (t : Tapi_Trip) : List Tapi_Fact :=
  if amongB t id = true then
    (if (cidx r.Charges ([116, 58] ++ t.ID)).isSome = true then [⟨[116, 114, 105, 112], t.ID, 0⟩, ⟨[99, 104, 97, 114, 103, 101], [116, 58] ++ t.ID, 0⟩] else [⟨[116, 114, 105, 112], t.ID, 0⟩])
  else []
def excF (id : List UInt8) (x : Tapi_Exclusion) : List Tapi_Fact := if x.ID = id then [⟨[101, 120, 99, 108, 117, 115, 105, 111, 110], x.ID, x.Why⟩] else []
def factsR (r : Tapi_Result) (id : List UInt8) : List Tapi_Fact := ([⟨[112, 97, 115, 115, 97, 103, 101], id, 0⟩] ++ r.Trips.flatMap (tripF r id)) ++ r.Exclusions.flatMap (excF id)
theorem tripF_len (r : Tapi_Result) (id : List UInt8) (t : Tapi_Trip) : (tripF r id t).length ≤ 2 := by
  unfold tripF; split
  · split <;> simp
  · simp
theorem excF_len (id : List UInt8) (x : Tapi_Exclusion) : (excF id x).length ≤ 1 := by unfold excF; split <;> simp
structure FitR (r : Tapi_Result) : Prop where
  trips : r.Trips.length ≤ 120
  chg : r.Charges.length ≤ 120
  exc : r.Exclusions.length ≤ 120
  pas : r.Passages.length ≤ 120
  stops : ∀ t ∈ r.Trips, t.Stops.length ≤ 40
  ids : ∀ t ∈ r.Trips, swfW t.ID
theorem flat_len {α γ : Type} {g : α → List γ} (c : Nat) (hg : ∀ x, (g x).length ≤ c) : ∀ l : List α, (l.flatMap g).length ≤ c * l.length
  | [] => by simp
  | x :: l => by
    have := flat_len c hg l
    have := hg x
    rw [List.flatMap_cons, List.length_append, List.length_cons, Nat.mul_add]; omega
theorem factsR_len (r : Tapi_Result) (hf : FitR r) (id : List UInt8) : (factsR r id).length ≤ 361 := by
  have h1 := flat_len 2 (tripF_len r id) r.Trips
  have h2 := flat_len 1 (excF_len id) r.Exclusions
  have := hf.trips; have := hf.exc
  unfold factsR
  simp only [List.length_append, List.length_cons, List.length_nil]
  omega
theorem facts_eq (r : Tapi_Result) (hf : FitR r) (p : Tapi_Passage) : trace_facts r p = some (factsR r p.ID) := by
  have l1 := hf.trips; have l2 := hf.exc; have l3 := hf.chg
  obtain ⟨k1, b1⟩ := lp_flat0 (l := r.Trips) (step := trace_facts_L1_step r p) (g := tripF r p.ID) (out := fun a => a) 2 [⟨[112, 97, 115, 115, 97, 103, 101], p.ID, 0⟩] (fun x _ => tripF_len r p.ID x)
    (fun k x b hx hm hk hb => by
      simp only [List.length_cons, List.length_nil] at hb
      have hs := hf.stops x hm
      have hid : x.ID.length ≤ reachBytes := hf.ids x hm
      unfold reachBytes at hid
      have hl := psgs_len x hs
      unfold trace_facts_L1_step
      refine ite_t (by omega) (bind_i hx (bind_i (passages_eq x hs) ?_))
      have k2 := lp_find0 (l := psgs x) (step := trace_facts_L59_step p (psgs x)) (fun q => decide (q = p.ID)) (fun k => (k : Int)) (fun k y hy hk => by
        unfold trace_facts_L59_step
        refine ite_t (by omega) (bind_i hy ?_)
        by_cases hb : y = p.ID
        · rw [decide_eq_true hb]; exact ite_t hb.symm rfl
        · rw [decide_eq_false hb]; exact ite_f (fun h => hb h.symm) (guard_i (inR_i64.2 (by omega)) rfl)) (by unfold trace_facts_L59_step; exact ite_f (by omega) rfl)
      refine bind_i k2 ?_
      have ha : amongB x p.ID = (fidx (fun q => decide (q = p.ID)) (psgs x) 0).isSome := by unfold amongB; rw [fidx_any]
      cases hfi : fidx (fun q => decide (q = p.ID)) (psgs x) 0 with
      | none =>
        have e : tripF r p.ID x = [] := by unfold tripF; rw [if_neg (by rw [ha, hfi]; decide)]
        rw [e, List.append_nil]; exact guard_i (inR_i64.2 (by omega)) rfl
      | some i =>
        have hm2 : amongB x p.ID = true := by rw [ha, hfi]; rfl
        have e : tripF r p.ID x = (if (cidx r.Charges ([116, 58] ++ x.ID)).isSome = true then [⟨[116, 114, 105, 112], x.ID, 0⟩, ⟨[99, 104, 97, 114, 103, 101], [116, 58] ++ x.ID, 0⟩] else [⟨[116, 114, 105, 112], x.ID, 0⟩]) := by unfold tripF; rw [if_pos hm2]
        rw [e]
        refine ite_t (by omega) (guard_i (by omega) (guard_i (by simp; omega) (bind_i (charged_eq r _ l3) ?_)))
        cases cidx r.Charges ([116, 58] ++ x.ID) with
        | none => exact ite_f (fun h => Bool.false_ne_true h) (guard_i (inR_i64.2 (by omega)) rfl)
        | some j =>
          refine ite_t rfl (guard_i (by simp; omega) (guard_i (inR_i64.2 (by omega)) ?_))
          simp)
    (fun b hb => by unfold trace_facts_L1_step; exact ite_f (by omega) rfl)
  simp only [List.length_cons, List.length_nil] at b1
  obtain ⟨k2, b2⟩ := lp_flat0 (l := r.Exclusions) (step := trace_facts_L81_step r p) (g := excF p.ID) (out := fun a => a) 1 ([⟨[112, 97, 115, 115, 97, 103, 101], p.ID, 0⟩] ++ r.Trips.flatMap (tripF r p.ID)) (fun x _ => excF_len p.ID x)
    (fun k x b hx hm hk hb => by
      unfold trace_facts_L81_step excF
      refine ite_t (by omega) (bind_i hx ?_)
      by_cases hc : x.ID = p.ID
      · rw [if_pos hc, if_pos hc]; exact guard_i (by omega) (guard_i (inR_i64.2 (by omega)) rfl)
      · rw [if_neg hc, if_neg hc, List.append_nil]; exact guard_i (inR_i64.2 (by omega)) rfl)
    (fun b hb => by unfold trace_facts_L81_step; exact ite_f (by omega) rfl)
  unfold trace_facts
  exact bind_i k1 (bind_i k2 rfl)
theorem rfacts_eq (r : Tapi_Result) (hf : FitR r) (id : List UInt8) : tollwayref52_facts r id = some (factsR r id) := by
  have l1 := hf.trips; have l2 := hf.exc; have l3 := hf.chg
  obtain ⟨k1, b1⟩ := lp_flat0 (l := r.Trips) (step := tollwayref52_facts_L1_step r id) (g := tripF r id) (out := fun a => a) 2 [⟨[112, 97, 115, 115, 97, 103, 101], id, 0⟩] (fun x _ => tripF_len r id x)
    (fun k x b hx hm hk hb => by
      simp only [List.length_cons, List.length_nil] at hb
      have hs := hf.stops x hm
      have hid : x.ID.length ≤ reachBytes := hf.ids x hm
      unfold reachBytes at hid
      unfold tollwayref52_facts_L1_step tripF
      refine ite_t (by omega) (bind_i hx (bind_i (among_eq x hs id) ?_))
      by_cases ha : amongB x id = true
      · rw [if_pos ha, if_pos ha]
        refine guard_i (by omega) (guard_i (by simp; omega) (bind_i (rcharge_eq r.Charges _ l3) ?_))
        cases cidx r.Charges ([116, 58] ++ x.ID) with
        | none => exact ite_f (by decide) (guard_i (inR_i64.2 (by omega)) rfl)
        | some j =>
          refine ite_t (by simp) (guard_i (by simp; omega) (guard_i (inR_i64.2 (by omega)) ?_))
          simp
      · rw [if_neg ha, if_neg ha, List.append_nil]; exact guard_i (inR_i64.2 (by omega)) rfl)
    (fun b hb => by unfold tollwayref52_facts_L1_step; exact ite_f (by omega) rfl)
  simp only [List.length_cons, List.length_nil] at b1
  obtain ⟨k2, b2⟩ := lp_flat0 (l := r.Exclusions) (step := tollwayref52_facts_L32_step r id) (g := excF id) (out := fun a => a) 1 ([⟨[112, 97, 115, 115, 97, 103, 101], id, 0⟩] ++ r.Trips.flatMap (tripF r id)) (fun x _ => excF_len id x)
    (fun k x b hx hm hk hb => by
      unfold tollwayref52_facts_L32_step excF
      refine ite_t (by omega) (bind_i hx ?_)
      by_cases hc : x.ID = id
      · rw [if_pos hc, if_pos hc, hc]; exact guard_i (by omega) (guard_i (inR_i64.2 (by omega)) rfl)
      · rw [if_neg hc, if_neg hc, List.append_nil]; exact guard_i (inR_i64.2 (by omega)) rfl)
    (fun b hb => by unfold tollwayref52_facts_L32_step; exact ite_f (by omega) rfl)
  unfold tollwayref52_facts
  exact bind_i k1 (bind_i k2 rfl)
/-! ### Detection -/
def rejF (x : Tapi_Source) (y : Tapi_Reject) : List Tapi_Fact := if isB x y.D = true then [⟨[114, 101, 106, 101, 99, 116], keyR x, y.Why⟩] else []
def srcB (x s : Tapi_Source) : Bool := (x.Device == s.Device) && ((x.Seq == s.Seq) && true)
def pasF (r : Tapi_Result) (x : Tapi_Source) (p : Tapi_Passage) : List Tapi_Fact := if p.Sources.any (srcB x) = true then factsR r p.ID else []
def detR (s : Tapi_State) (x : Tapi_Source) : List Tapi_Fact × Int :=
  if knownB s x = true then (([⟨[100, 101, 116, 101, 99, 116, 105, 111, 110], keyR x, 0⟩] ++ s.Result.Rejects.flatMap (rejF x)) ++ s.Result.Passages.flatMap (pasF s.Result x), 0) else ([], 10)
theorem rejF_len (x : Tapi_Source) (y : Tapi_Reject) : (rejF x y).length ≤ 1 := by unfold rejF; split <;> simp
theorem pasF_len (r : Tapi_Result) (hf : FitR r) (x : Tapi_Source) (p : Tapi_Passage) : (pasF r x p).length ≤ 361 := by
  unfold pasF; split
  · exact factsR_len r hf _
  · simp
theorem Fits.r {s : Tapi_State} (hf : Fits s) (hi : ∀ t ∈ s.Result.Trips, swfW t.ID) : FitR s.Result := ⟨hf.trips, hf.chg, hf.exc, hf.pas, hf.stops, hi⟩
theorem detection_eq (s : Tapi_State) (x : Tapi_Source) (hf : Fits s) (hi : ∀ t ∈ s.Result.Trips, swfW t.ID) (hx : swfW x.Device ∧ InR .i64 x.Seq) : trace_Detection s x = some (detR s x) := by
  have hr := hf.r hi
  have l1 := hf.rrej; have l2 := hf.pas
  unfold trace_Detection detR
  refine bind_i (known_eq s hf x) ?_
  by_cases hk : knownB s x = true
  · rw [if_pos hk, if_pos hk]
    obtain ⟨k1, b1⟩ := lp_flat0 (l := s.Result.Rejects) (step := trace_Detection_L6_step s x) (g := rejF x) (out := fun a => a) 1 [⟨[100, 101, 116, 101, 99, 116, 105, 111, 110], keyR x, 0⟩] (fun y _ => rejF_len x y)
      (fun k y b hy hm hk hb => by
        simp only [List.length_cons, List.length_nil] at hb
        unfold trace_Detection_L6_step rejF
        refine ite_t (by omega) (bind_i hy (bind_i (from_eq _ _) ?_))
        by_cases hc : isB x y.D = true
        · rw [if_pos hc, if_pos hc]; exact bind_i (key_eq x hx) (guard_i (by omega) (guard_i (inR_i64.2 (by omega)) rfl))
        · rw [if_neg hc, if_neg hc, List.append_nil]; exact guard_i (inR_i64.2 (by omega)) rfl)
      (fun b hb => by unfold trace_Detection_L6_step; exact ite_f (by omega) rfl)
    simp only [List.length_cons, List.length_nil] at b1
    obtain ⟨k2, b2⟩ := lp_flat0 (l := s.Result.Passages) (step := trace_Detection_L29_step s x) (g := pasF s.Result x) (out := fun a => a) 361 ([⟨[100, 101, 116, 101, 99, 116, 105, 111, 110], keyR x, 0⟩] ++ s.Result.Rejects.flatMap (rejF x)) (fun y _ => pasF_len _ hr x y)
      (fun k y b hy hm hk hb => by
        have hs := hf.src y hm
        unfold trace_Detection_L29_step
        refine ite_t (by omega) (bind_i hy ?_)
        have k3 := lp_find0 (l := y.Sources) (step := trace_Detection_L54_step x y) (srcB x) (fun k => (k : Int)) (fun k z hz hk => by
          unfold trace_Detection_L54_step
          refine ite_t (by omega) (bind_i hz ?_)
          cases hb : srcB x z
          · exact ite_f (by unfold srcB at hb; rw [hb]; decide) (guard_i (inR_i64.2 (by omega)) rfl)
          · exact ite_t hb rfl) (by unfold trace_Detection_L54_step; exact ite_f (by omega) rfl)
        refine bind_i k3 ?_
        have hfl := factsR_len s.Result hr y.ID
        have ha := fidx_any (p := srcB x) y.Sources 0
        cases hfi : fidx (srcB x) y.Sources 0 with
        | none =>
          have e : pasF s.Result x y = [] := by unfold pasF; rw [if_neg (by rw [← ha, hfi]; decide)]
          rw [e, List.append_nil]; exact guard_i (inR_i64.2 (by omega)) rfl
        | some i =>
          have e : pasF s.Result x y = factsR s.Result y.ID := by unfold pasF; rw [if_pos (by rw [← ha, hfi]; rfl)]
          rw [e]
          exact ite_t (by omega) (bind_i (facts_eq _ hr y) (guard_i (by omega) (guard_i (inR_i64.2 (by omega)) rfl))))
      (fun b hb => by unfold trace_Detection_L29_step; exact ite_f (by omega) rfl)
    exact bind_i (key_eq x hx) (bind_i k1 (bind_i k2 rfl))
  · rw [if_neg hk, if_neg hk]
theorem srcB_comm (x s : Tapi_Source) : ((s.Device == x.Device) && ((s.Seq == x.Seq) && true)) = srcB x s := by
  unfold srcB
  rw [BEq.comm (a := s.Device), BEq.comm (a := s.Seq)]
theorem rdetection_eq (s : Tapi_State) (x : Tapi_Source) (hf : Fits s) (hi : ∀ t ∈ s.Result.Trips, swfW t.ID) (hx : swfW x.Device ∧ InR .i64 x.Seq) : tollwayref52_Detection s x = some (detR s x) := by
  have hr := hf.r hi
  have l1 := hf.rrej; have l2 := hf.pas
  unfold tollwayref52_Detection detR
  refine bind_i (rknown_eq s hf x) ?_
  by_cases hk : knownB s x = true
  · rw [if_pos hk, if_pos hk]
    obtain ⟨k1, b1⟩ := lp_flat0 (l := s.Result.Rejects) (step := tollwayref52_Detection_L6_step s x) (g := rejF x) (out := fun a => a) 1 [⟨[100, 101, 116, 101, 99, 116, 105, 111, 110], keyR x, 0⟩] (fun y _ => rejF_len x y)
      (fun k y b hy hm hk hb => by
        simp only [List.length_cons, List.length_nil] at hb
        unfold tollwayref52_Detection_L6_step rejF
        refine ite_t (by omega) (bind_i hy (bind_i (is_eq _ _) ?_))
        by_cases hc : isB x y.D = true
        · rw [if_pos hc, if_pos hc]; exact bind_i (rkey_eq x hx) (guard_i (by omega) (guard_i (inR_i64.2 (by omega)) rfl))
        · rw [if_neg hc, if_neg hc, List.append_nil]; exact guard_i (inR_i64.2 (by omega)) rfl)
      (fun b hb => by unfold tollwayref52_Detection_L6_step; exact ite_f (by omega) rfl)
    simp only [List.length_cons, List.length_nil] at b1
    obtain ⟨k2, b2⟩ := lp_flat0 (l := s.Result.Passages) (step := tollwayref52_Detection_L29_step s x) (g := pasF s.Result x) (out := fun a => a) 361 ([⟨[100, 101, 116, 101, 99, 116, 105, 111, 110], keyR x, 0⟩] ++ s.Result.Rejects.flatMap (rejF x)) (fun y _ => pasF_len _ hr x y)
      (fun k y b hy hm hk hb => by
        have hs := hf.src y hm
        unfold tollwayref52_Detection_L29_step pasF
        refine ite_t (by omega) (bind_i hy ?_)
        have k3 := lp_foldl (l := y.Sources) (mk := fun (v : Bool) k => (v, k)) (step := tollwayref52_Detection_L55_step s x k b y) (g := fun v z => v || srcB x z) (out := fun v => v) (fun _ _ => True) (fun k z v hz _ => by
          have hk := get_lt hz
          refine ⟨?_, trivial⟩
          unfold tollwayref52_Detection_L55_step
          refine ite_t (by omega) ?_
          cases v
          · refine ite_f (by decide) (bind_i hz (guard_i (inR_i64.2 (by omega)) ?_))
            rw [srcB_comm, Bool.false_or]
          · exact ite_t rfl (guard_i (inR_i64.2 (by omega)) rfl)) (fun v _ => by unfold tollwayref52_Detection_L55_step; exact ite_f (by omega) rfl) (a := false) trivial
        refine bind_i k3 ?_
        have ha : ∀ (l : List Tapi_Source) (v : Bool), l.foldl (fun v z => v || srcB x z) v = (v || l.any (srcB x)) := fun l => by
          induction l with
          | nil => simp
          | cons z l ih => intro v; rw [List.foldl_cons, ih, List.any_cons, Bool.or_assoc]
        rw [ha, Bool.false_or]
        have hfl := factsR_len s.Result hr y.ID
        by_cases hc : y.Sources.any (srcB x) = true
        · rw [if_pos hc, if_pos hc]
          exact bind_i (rfacts_eq _ hr y.ID) (guard_i (by omega) (guard_i (inR_i64.2 (by omega)) rfl))
        · rw [if_neg hc, if_neg hc, List.append_nil]; exact guard_i (inR_i64.2 (by omega)) rfl)
      (fun b hb => by unfold tollwayref52_Detection_L29_step; exact ite_f (by omega) rfl)
    exact bind_i (rkey_eq x hx) (bind_i k1 (bind_i k2 rfl))
  · rw [if_neg hk, if_neg hk]
theorem detR_len (s : Tapi_State) (x : Tapi_Source) (hf : Fits s) (hi : ∀ t ∈ s.Result.Trips, swfW t.ID) : (detR s x).1.length ≤ 1000000 := by
  have hr := hf.r hi
  have h1 := flat_len 1 (rejF_len x) s.Result.Rejects
  have h2 := flat_len 361 (pasF_len _ hr x) s.Result.Passages
  have := hf.rrej; have := hf.pas
  unfold detR
  split
  · simp only [List.length_append, List.length_cons, List.length_nil]; omega
  · exact Nat.zero_le _
theorem same_refl (a : List Tapi_Fact) (h : a.length ≤ 1000000) : tollwayref52_Same a a = some true := by
  have k1 := lp_find0 (l := a) (step := tollwayref52_Same_L2_step a a) (fun _ => false) (fun _ => ()) (fun k y hy hk => by
    unfold tollwayref52_Same_L2_step
    refine ite_t (by omega) (bind_i hy (bind_i hy (ite_t (by simp) (guard_i (inR_i64.2 (by omega)) rfl))))) (by unfold tollwayref52_Same_L2_step; exact ite_f (by omega) rfl)
  unfold tollwayref52_Same
  refine ite_t rfl (bind_i k1 ?_)
  have : fidx (fun _ => false) a 0 = none := by
    have h2 := fidx_any (p := fun _ : Tapi_Fact => false) a 0
    rw [show a.any (fun _ => false) = false by simp] at h2
    cases hc : fidx (fun _ : Tapi_Fact => false) a 0 with
    | none => rfl
    | some i => rw [hc] at h2; cases h2
  rw [this]
theorem detections_true (s : Tapi_State) (x : Tapi_Source) (hi : ∀ t ∈ s.Result.Trips, swfW t.ID) (hx : swfW x.Device ∧ InR .i64 x.Seq) : tollwaylaw52_TraceDetections s x = some true := by
  unfold tollwaylaw52_TraceDetections
  rcases great_eq s with hg | ⟨hg, hf⟩
  · exact bind_i hg (ite_t rfl (bind_i trace_awake_true rfl))
  · exact bind_i hg (ite_f (by decide) (bind_i (detection_eq s x hf hi hx) (bind_i (rdetection_eq s x hf hi hx) (bind_i (same_refl _ (detR_len s x hf hi)) (ite_t rfl (ite_t rfl (bind_i trace_awake_true rfl)))))))
/-! ### Passage -/
def pasR (s : Tapi_State) (id : List UInt8) : List Tapi_Fact × Int := if (pidx s.Result.Passages id).isSome = true then (factsR s.Result id, 0) else ([], 10)
theorem passage_eq (s : Tapi_State) (id : List UInt8) (hf : Fits s) (hi : ∀ t ∈ s.Result.Trips, swfW t.ID) : trace_Passage s id = some (pasR s id) := by
  have hr := hf.r hi
  unfold trace_Passage pasR
  refine bind_i (passed_eq s.Result id hf.pas) ?_
  cases hp : pidx s.Result.Passages id with
  | none => rfl
  | some i =>
    obtain ⟨-, y, hy, hy2⟩ := fidx_some hp
    rw [Nat.sub_zero] at hy
    have hid : (s.Result.Passages.getD i noPassage).ID = id := by
      rw [List.getD_eq_getElem?_getD, hy]; exact of_decide_eq_true hy2
    refine ite_t rfl (bind_i (facts_eq _ hr _) ?_)
    rw [hid]; rfl
theorem rpass_eq (s : Tapi_State) (id : List UInt8) (hf : Fits s) (hi : ∀ t ∈ s.Result.Trips, swfW t.ID) : tollwayref52_Passage s id = some (pasR s id) := by
  have hr := hf.r hi
  unfold tollwayref52_Passage pasR
  refine bind_i (rpassage_eq s.Result.Passages id hf.pas) ?_
  cases hp : pidx s.Result.Passages id with
  | none => rfl
  | some i => exact ite_f (by simp) (bind_i (rfacts_eq _ hr id) rfl)
theorem passages_true (s : Tapi_State) (id : List UInt8) (hi : ∀ t ∈ s.Result.Trips, swfW t.ID) : tollwaylaw52_TracePassages s id = some true := by
  unfold tollwaylaw52_TracePassages
  rcases great_eq s with hg | ⟨hg, hf⟩
  · exact bind_i hg (ite_t rfl (bind_i trace_awake_true rfl))
  · have hl : (pasR s id).1.length ≤ 1000000 := by
      have := factsR_len s.Result (hf.r hi) id
      unfold pasR; split
      · exact Nat.le_trans this (by decide)
      · exact Nat.zero_le _
    exact bind_i hg (ite_f (by decide) (bind_i (passage_eq s id hf hi) (bind_i (rpass_eq s id hf hi) (bind_i (same_refl _ hl) (ite_t rfl (ite_t rfl (bind_i trace_awake_true rfl)))))))
end Go.Proofs.YtalobodhbbkgdabDoor.Av
