/- Trace: owners, and what Charge gives; the reference too; the law TraceCharges. -/
import Derived.Test.YtalobodhbbkgdabDoorQTr34
import Derived.Test.YtalobodhbbkgdabDoorQ9
import Derived.Test.YtalobodhbbkgdabDoorQ8
import Derived.Test.YtalobodhbbkgdabDoorQ10
set_option linter.unusedVariables false
set_option linter.unusedSimpArgs false
namespace Go.Proofs.YtalobodhbbkgdabDoor.Av
theorem lp_flat0 {α γ ρ : Type} {l : List α} {step : Nat × List γ → Option ((Nat × List γ) ⊕ ρ)} {g : α → List γ} {out : List γ → ρ} (c : Nat) (a : List γ)
    (hg : ∀ x ∈ l, (g x).length ≤ c)
    (hstep : ∀ k x b, l[k]? = some x → x ∈ l → k < l.length → b.length ≤ a.length + c * k → step (k, b) = some (.inl (k + 1, b ++ g x)))
    (hend : ∀ b, b.length ≤ a.length + c * l.length → step (l.length, b) = some (.inr (out b))) : lp step (0, a) = some (out (a ++ l.flatMap g)) ∧ (a ++ l.flatMap g).length ≤ a.length + c * l.length := by
  have := lp_flat (l := l) (mk := fun b k => (k, b)) (step := step) (g := g) (out := out) a.length c hg hstep hend l.length 0 a (by omega) (by omega)
  simpa using this
theorem flat_len {α γ : Type} {g : α → List γ} (c : Nat) (hg : ∀ x, (g x).length ≤ c) : ∀ l : List α, (l.flatMap g).length ≤ c * l.length
  | [] => by simp
  | x :: l => by
    have := flat_len c hg l
    have := hg x
    rw [List.flatMap_cons, List.length_append, List.length_cons, Nat.mul_add]; omega
/-! ### owners -/
def spanB (i : Tapi_Interval) : Bool := decide (i.From ≥ 0) && (decide (i.From < i.To) && decide (i.To ≤ 68719476736))
def inB (t : Int) (i : Tapi_Interval) : Bool := spanB i && (decide (i.From ≤ t) && decide (t < i.To))
theorem isSpan_eq (i : Tapi_Interval) : tollwayref26_IsSpan i = some (spanB i) := by
  unfold tollwayref26_IsSpan spanB
  by_cases h1 : i.From ≥ 0
  · by_cases h2 : i.From < i.To
    · rw [if_pos h1, if_pos h2]; simp [h1, h2]
    · rw [if_pos h1, if_neg h2]; simp [h2]
  · rw [if_neg h1]; simp [h1]
theorem valid_eq (i : Tapi_Interval) : span_Valid i = some (spanB i) := isSpan_eq i
theorem has_eq (i : Tapi_Interval) (t : Int) : span_Has [i] t = some (inB t i) := by
  have k1 := lp_find0 (l := [i]) (step := span_Has_L1_step [i] t) (inB t) (fun k => (k : Int)) (fun k x hx hk => by
    unfold span_Has_L1_step inB
    refine ite_t (by omega) (bind_i hx (bind_i (valid_eq x) ?_))
    cases hs : spanB x
    · exact ite_f (by decide) (guard_i (inR_i64.2 (by simp at hk; omega)) rfl)
    · refine ite_t rfl ?_
      by_cases h1 : x.From ≤ t
      · refine ite_t h1 ?_
        by_cases h2 : t < x.To
        · refine ite_t h2 ?_; simp [h1, h2]
        · refine ite_f h2 (guard_i (inR_i64.2 (by simp at hk; omega)) ?_); simp [h2]
      · refine ite_f h1 (guard_i (inR_i64.2 (by simp at hk; omega)) ?_); simp [h1]) (by unfold span_Has_L1_step; exact ite_f (by omega) rfl)
  unfold span_Has
  refine bind_i k1 ?_
  unfold fidx
  cases h : inB t i
  · rw [if_neg (by decide)]; rfl
  · rw [if_pos rfl]; rfl
def ownB (v : List UInt8) (t : Int) (o : Tapi_Owned) : Bool := !(decide (v = [])) && ((decide (o.Tag = v) || decide (o.Plate = v)) && inB t o.Time)
theorem owned_eq (l : List Tapi_Owned) (hl : l.length ≤ 80) (v : List UInt8) (t : Int) : account_owned l v t = some (match fidx (ownB v t) l 0 with | some i => (i : Int) | none => -1) := by
  have k1 := lp_find0 (l := l) (step := account_owned_L1_step l v t) (ownB v t) (fun k => (k : Int)) (fun k x hx hk => by
    unfold account_owned_L1_step ownB
    refine ite_t (by omega) (bind_i hx ?_)
    by_cases h0 : v = []
    · refine ite_t h0 (guard_i (inR_i64.2 (by omega)) ?_); simp [h0]
    · refine ite_f h0 ?_
      by_cases h1 : x.Tag = v
      · refine ite_t h1 (bind_i (has_eq _ _) ?_)
        cases hb : inB t x.Time
        · refine ite_f (by decide) (guard_i (inR_i64.2 (by omega)) ?_); simp
        · refine ite_t rfl ?_; simp [h0, h1]
      · refine ite_f h1 ?_
        by_cases h2 : x.Plate = v
        · refine ite_t h2 (bind_i (has_eq _ _) ?_)
          cases hb : inB t x.Time
          · refine ite_f (by decide) (guard_i (inR_i64.2 (by omega)) ?_); simp
          · refine ite_t rfl ?_; simp [h0, h2]
        · refine ite_f h2 (guard_i (inR_i64.2 (by omega)) ?_); simp [h1, h2]) (by unfold account_owned_L1_step; exact ite_f (by omega) rfl)
  unfold account_owned
  rw [k1]
  cases fidx (ownB v t) l 0 <;> rfl
theorem rowned_eq (l : List Tapi_Owned) (hl : l.length ≤ 80) (v : List UInt8) (t : Int) : tollwayref33_owns l v t = some (match fidx (ownB v t) l 0 with | some i => (i : Int) | none => -1) := by
  have k1 := lp_find0 (l := l) (step := tollwayref33_owns_L1_step l v t) (ownB v t) (fun k => (k : Int)) (fun k x hx hk => by
    unfold tollwayref33_owns_L1_step ownB inB
    refine ite_t (by omega) ?_
    by_cases h0 : v = []
    · refine ite_t h0 (guard_i (inR_i64.2 (by omega)) ?_); simp [h0]
    · refine ite_f h0 (bind_i hx ?_)
      have tail : ∀ q : Bool, q = true → (if spanB x.Time = true then if x.Time.From ≤ t then if t < x.Time.To then some (Sum.inr (Sum.inl (k : Int))) else (if InR .i64 ((k : Int) + 1) then some (Sum.inl (k + 1)) else none) else (if InR .i64 ((k : Int) + 1) then some (Sum.inl (k + 1)) else none) else (if InR .i64 ((k : Int) + 1) then some (Sum.inl (k + 1)) else none) : Option (Nat ⊕ (Int ⊕ Unit)))
          = some (if (!(decide (v = [])) && (q && (spanB x.Time && (decide (x.Time.From ≤ t) && decide (t < x.Time.To))))) = true then .inr (.inl (k : Int)) else .inl (k + 1)) := fun q hq => by
        subst hq
        cases hs : spanB x.Time
        · refine ite_f (by decide) (guard_i (inR_i64.2 (by omega)) ?_); simp
        · refine ite_t rfl ?_
          by_cases h1 : x.Time.From ≤ t
          · refine ite_t h1 ?_
            by_cases h2 : t < x.Time.To
            · refine ite_t h2 ?_; simp [h0, h1, h2]
            · refine ite_f h2 (guard_i (inR_i64.2 (by omega)) ?_); simp [h2]
          · refine ite_f h1 (guard_i (inR_i64.2 (by omega)) ?_); simp [h1]
      by_cases h1 : x.Tag = v
      · exact ite_t h1 (bind_i (isSpan_eq _) (tail _ (by simp [h1])))
      · refine ite_f h1 ?_
        by_cases h2 : x.Plate = v
        · exact ite_t h2 (bind_i (isSpan_eq _) (tail _ (by simp [h2])))
        · refine ite_f h2 (guard_i (inR_i64.2 (by omega)) ?_); simp [h1, h2]) (by unfold tollwayref33_owns_L1_step; exact ite_f (by omega) rfl)
  unfold tollwayref33_owns
  rw [k1]
  cases fidx (ownB v t) l 0 <;> rfl
def accB (v : List UInt8) (t : Int) (a : Tapi_Account) : Bool := a.Owned.any (ownB v t)
def ownerR (l : List Tapi_Account) (v : List UInt8) (t : Int) : List UInt8 × Bool := match fidx (accB v t) l 0 with | some i => (((l[i]?).map (·.Name)).getD [], true) | none => ([], false)
theorem owner_eq (l : List Tapi_Account) (hl : l.length ≤ 30) (ho : ∀ a ∈ l, a.Owned.length ≤ 80) (v : List UInt8) (t : Int) : account_Owner l v t = some (ownerR l v t) := by
  have k1 := lp_find0 (l := l) (step := account_Owner_L1_step l v t) (accB v t) (fun k => ((l[k]?).map (·.Name)).getD []) (fun k x hx hk => by
    have hm : x ∈ l := List.mem_of_getElem? hx
    unfold account_Owner_L1_step accB
    refine ite_t (by omega) (bind_i hx (bind_i (owned_eq _ (ho x hm) v t) ?_))
    rw [← fidx_any x.Owned 0]
    cases hf : fidx (ownB v t) x.Owned 0 with
    | none => exact ite_f (by simp) (guard_i (inR_i64.2 (by omega)) rfl)
    | some i => refine ite_t (by simp) ?_; simp [hx]) (by unfold account_Owner_L1_step; exact ite_f (by omega) rfl)
  unfold account_Owner ownerR
  rw [k1]
  cases fidx (accB v t) l 0 <;> rfl
theorem rowner_eq (l : List Tapi_Account) (hl : l.length ≤ 30) (ho : ∀ a ∈ l, a.Owned.length ≤ 80) (v : List UInt8) (t : Int) : tollwayref33_Owner l v t = some (ownerR l v t) := by
  have k1 := lp_find0 (l := l) (step := tollwayref33_Owner_L1_step l v t) (accB v t) (fun k => ((l[k]?).map (·.Name)).getD []) (fun k x hx hk => by
    have hm : x ∈ l := List.mem_of_getElem? hx
    unfold tollwayref33_Owner_L1_step accB
    refine ite_t (by omega) (bind_i hx (bind_i (rowned_eq _ (ho x hm) v t) ?_))
    rw [← fidx_any x.Owned 0]
    cases hf : fidx (ownB v t) x.Owned 0 with
    | none => exact ite_f (by simp) (guard_i (inR_i64.2 (by omega)) rfl)
    | some i => refine ite_t (by simp) ?_; simp [hx]) (by unfold tollwayref33_Owner_L1_step; exact ite_f (by omega) rfl)
  unfold tollwayref33_Owner ownerR
  rw [k1]
  cases fidx (accB v t) l 0 <;> rfl
/-! ### the parts of a charge's facts -/
def linF (l : Tapi_Line) : List Tapi_Fact := [⟨[108, 105, 110, 101], l.Text, 0⟩]
def srcF (x : Tapi_Source) : List Tapi_Fact := [⟨[100, 101, 116, 101, 99, 116, 105, 111, 110], keyR x, 0⟩]
def srcsR (r : Tapi_Result) (id : List UInt8) : List Tapi_Source := match pidx r.Passages id with | some i => (r.Passages.getD i noPassage).Sources | none => []
def stopF (r : Tapi_Result) (x : Tapi_Stop) : List Tapi_Fact := if x.Passage = [] then [⟨[105, 110, 102, 101, 114, 114, 101, 100], x.Point, 0⟩] else [⟨[112, 97, 115, 115, 97, 103, 101], x.Passage, 0⟩] ++ (srcsR r x.Passage).flatMap srcF
structure FitC (s : Tapi_State) : Prop where
  f : Fits s
  tid : ∀ t ∈ s.Result.Trips, swfW t.ID
  sid : ∀ t ∈ s.Result.Stays, swfW t.ID
  keys : ∀ p ∈ s.Result.Passages, ∀ x ∈ p.Sources, swfW x.Device ∧ InR .i64 x.Seq
theorem pidx_mem {l : List Tapi_Passage} {id : List UInt8} {i : Nat} (h : pidx l id = some i) : l[i]? = some (l.getD i noPassage) ∧ l.getD i noPassage ∈ l := by
  obtain ⟨-, y, hy, -⟩ := fidx_some h
  rw [Nat.sub_zero] at hy
  have e : l.getD i noPassage = y := by rw [List.getD_eq_getElem?_getD, hy]; rfl
  rw [e]
  exact ⟨hy, List.mem_of_getElem? hy⟩
theorem srcsR_fit {s : Tapi_State} (h : FitC s) (id : List UInt8) : (srcsR s.Result id).length ≤ 40 ∧ ∀ x ∈ srcsR s.Result id, swfW x.Device ∧ InR .i64 x.Seq := by
  unfold srcsR
  cases hp : pidx s.Result.Passages id with
  | none => exact ⟨by simp, fun x hx => by cases hx⟩
  | some i => exact ⟨h.f.src _ (pidx_mem hp).2, h.keys _ (pidx_mem hp).2⟩
theorem stopF_len {s : Tapi_State} (h : FitC s) (x : Tapi_Stop) : (stopF s.Result x).length ≤ 41 := by
  have h1 := flat_len (g := srcF) 1 (fun x => by simp [srcF]) (srcsR s.Result x.Passage)
  have h2 := (srcsR_fit h x.Passage).1
  unfold stopF
  split
  · simp
  · rw [List.length_append, List.length_cons, List.length_nil]; omega
def tidx (s : Tapi_State) (k : List UInt8) : Option Nat := fidx (fun t : Tapi_Trip => decide (([116, 58] : List UInt8) ++ t.ID = k)) s.Result.Trips 0
def sidx (s : Tapi_State) (k : List UInt8) : Option Nat := fidx (fun t : Tapi_Stay => decide (([112, 58] : List UInt8) ++ t.ID = k)) s.Result.Stays 0
def trF (r : Tapi_Result) (t : Tapi_Trip) : List Tapi_Fact := [⟨[116, 114, 105, 112], t.ID, 0⟩] ++ t.Stops.flatMap (stopF r)
def atF {α γ : Type} (l : List α) (g : α → List γ) : Option Nat → List γ
  | some i => match l[i]? with | some x => g x | none => []
  | none => []
def stayF (t : Tapi_Stay) : List Tapi_Fact := [⟨[115, 116, 97, 121], t.ID, 0⟩]
def owF (s : Tapi_State) (c : Tapi_Charge) : List Tapi_Fact := if (ownerR s.Config.Accounts c.Vehicle c.Time).2 = true then [⟨[97, 99, 99, 111, 117, 110, 116], (ownerR s.Config.Accounts c.Vehicle c.Time).1, 0⟩] else [⟨[118, 101, 104, 105, 99, 108, 101], c.Vehicle, 17⟩]
def doF (s : Tapi_State) (k : List UInt8) : List Tapi_Fact := if (cidx s.Books.Done k).isSome = true then [⟨[112, 111, 115, 116, 101, 100], k, 0⟩] else []
def chR (s : Tapi_State) (k : List UInt8) (c : Tapi_Charge) : List Tapi_Fact :=
  (((([⟨[99, 104, 97, 114, 103, 101], k, 0⟩] ++ c.Lines.flatMap linF) ++ atF s.Result.Trips (trF s.Result) (tidx s k)) ++ atF s.Result.Stays stayF (sidx s k)) ++ owF s c) ++ doF s k
def chargeR (s : Tapi_State) (k : List UInt8) : List Tapi_Fact × Int := match cidx s.Result.Charges k with | some i => (chR s k (s.Result.Charges.getD i noCharge), 0) | none => ([], 10)
theorem cidx_mem {l : List Tapi_Charge} {k : List UInt8} {i : Nat} (h : cidx l k = some i) : l[i]? = some (l.getD i noCharge) ∧ l.getD i noCharge ∈ l ∧ (l.getD i noCharge).Key = k := by
  obtain ⟨-, y, hy, hy2⟩ := fidx_some h
  rw [Nat.sub_zero] at hy
  have e : l.getD i noCharge = y := by rw [List.getD_eq_getElem?_getD, hy]; rfl
  rw [e]
  exact ⟨hy, List.mem_of_getElem? hy, of_decide_eq_true hy2⟩
theorem trF_len {s : Tapi_State} (h : FitC s) {t : Tapi_Trip} (ht : t ∈ s.Result.Trips) : (trF s.Result t).length ≤ 1641 := by
  have h1 := flat_len 41 (stopF_len h) t.Stops
  have h2 := h.f.stops t ht
  unfold trF
  rw [List.length_append, List.length_cons, List.length_nil]; omega
theorem atT_len {s : Tapi_State} (h : FitC s) (o : Option Nat) : (atF s.Result.Trips (trF s.Result) o).length ≤ 1641 := by
  unfold atF
  cases o with
  | none => simp
  | some i =>
    dsimp only
    cases hx : s.Result.Trips[i]? with
    | none => simp
    | some t => exact trF_len h (List.mem_of_getElem? hx)
theorem atS_len (s : Tapi_State) (o : Option Nat) : (atF s.Result.Stays stayF o).length ≤ 1 := by
  unfold atF
  cases o with
  | none => simp
  | some i =>
    dsimp only
    cases hx : s.Result.Stays[i]? with
    | none => simp
    | some t => simp [stayF]
theorem owF_len (s : Tapi_State) (c : Tapi_Charge) : (owF s c).length ≤ 1 := by unfold owF; split <;> simp
theorem doF_len (s : Tapi_State) (k : List UInt8) : (doF s k).length ≤ 1 := by unfold doF; split <;> simp
theorem chargeR_len {s : Tapi_State} (h : FitC s) (k : List UInt8) : (chargeR s k).1.length ≤ 1000000 := by
  unfold chargeR
  cases hc : cidx s.Result.Charges k with
  | none => exact Nat.zero_le _
  | some i =>
    have h1 := h.f.lines _ (cidx_mem hc).2.1
    have h2 := flat_len (g := linF) 1 (fun x => by simp [linF]) (s.Result.Charges.getD i noCharge).Lines
    have h3 := atT_len h (tidx s k)
    have h4 := atS_len s (sidx s k)
    have h5 := owF_len s (s.Result.Charges.getD i noCharge)
    have h6 := doF_len s k
    unfold chR
    simp only [List.length_append, List.length_cons, List.length_nil]
    omega
end Go.Proofs.YtalobodhbbkgdabDoor.Av
namespace Go.Proofs.YtalobodhbbkgdabDoor.Av
theorem same_refl (a : List Tapi_Fact) (h : a.length ≤ 1000000) : tollwayref52_Same a a = some true := by
  have k1 := lp_find0 (l := a) (step := tollwayref52_Same_L2_step a a) (fun _ => false) (fun _ => ()) (fun k y hy hk => by
    unfold tollwayref52_Same_L2_step
    refine ite_t (by omega) (bind_i hy (bind_i hy (ite_t (by simp) (guard_i (inR_i64.2 (by omega)) rfl))))) (by unfold tollwayref52_Same_L2_step; exact ite_f (by omega) rfl)
  unfold tollwayref52_Same
  refine ite_t rfl (bind_i k1 ?_)
  have : fidx (fun _ => false) a 0 = none := by
    have h2 := fidx_any (p := fun _ : Tapi_Fact => false) a 0
    rw [show a.any (fun _ => false) = false by simp] at h2
    cases hc : fidx (fun _ : Tapi_Fact => false) a 0 with
    | none => rfl
    | some i => rw [hc] at h2; cases h2
  rw [this]

theorem src_loop (r : Tapi_Passage × Bool) (hl : r.1.Sources.length ≤ 40) (hk : ∀ x ∈ r.1.Sources, swfW x.Device ∧ InR .i64 x.Seq) (a : List Tapi_Fact) (ha : a.length ≤ 10000) :
    lp (trace_Charge_L70_step r) (0, a) = some (a ++ r.1.Sources.flatMap srcF) :=
  (lp_flat0 (l := r.1.Sources) (step := trace_Charge_L70_step r) (g := srcF) (out := fun a => a) 1 a (fun x _ => by simp [srcF]) (fun k x b hx hm hk1 hb => by
    unfold trace_Charge_L70_step
    exact ite_t (by omega) (bind_i hx (bind_i (key_eq x (hk x hm)) (guard_i (by omega) (guard_i (inR_i64.2 (by omega)) rfl))))) (fun b hb => by unfold trace_Charge_L70_step; exact ite_f (by omega) rfl)).1
theorem passed_src (r : Tapi_Result) (id : List UInt8) (hl : r.Passages.length ≤ 120) : ∃ v, trace_passed r id = some v ∧ v.1.Sources = srcsR r id :=
  ⟨_, passed_eq r id hl, by unfold srcsR; cases pidx r.Passages id <;> rfl⟩
theorem stops_loop {s : Tapi_State} (h : FitC s) (k : List UInt8) (r1 : Tapi_Charge × Bool) (x : Tapi_Trip) (hx : x.Stops.length ≤ 40) (a : List Tapi_Fact) (ha : a.length ≤ 1000) :
    lp (trace_Charge_L35_step s k r1 x) (0, a) = some (a ++ x.Stops.flatMap (stopF s.Result)) :=
  (lp_flat0 (l := x.Stops) (step := trace_Charge_L35_step s k r1 x) (g := stopF s.Result) (out := fun a => a) 41 a (fun y _ => stopF_len h y) (fun i y b hy hm hi hb => by
    unfold trace_Charge_L35_step
    refine ite_t (by omega) (bind_i hy ?_)
    unfold stopF
    by_cases hp : y.Passage = []
    · refine ite_t hp ?_; rw [if_pos hp]; exact guard_i (by omega) (guard_i (inR_i64.2 (by omega)) rfl)
    · refine ite_f hp ?_
      rw [if_neg hp]
      obtain ⟨v, hv, hsv⟩ := passed_src s.Result y.Passage h.f.pas
      refine (guard_i (by omega) (bind_i hv ?_))
      have hs := srcsR_fit h y.Passage
      rw [← hsv] at hs ⊢
      refine bind_i (src_loop v hs.1 hs.2 _ (by simp; omega)) (guard_i (inR_i64.2 (by omega)) ?_)
      rw [List.append_assoc]) (fun b hb => by unfold trace_Charge_L35_step; exact ite_f (by omega) rfl)).1
theorem lines_loop (s : Tapi_State) (k : List UInt8) (r1 : Tapi_Charge × Bool) (hl : r1.1.Lines.length ≤ 40) (a : List Tapi_Fact) (ha : a.length ≤ 1) :
    lp (trace_Charge_L4_step s k r1) (0, a) = some (a ++ r1.1.Lines.flatMap linF) :=
  (lp_flat0 (l := r1.1.Lines) (step := trace_Charge_L4_step s k r1) (g := linF) (out := fun a => a) 1 a (fun x _ => by simp [linF]) (fun i x b hx hm hi hb => by
    unfold trace_Charge_L4_step
    exact ite_t (by omega) (bind_i hx (guard_i (by omega) (guard_i (inR_i64.2 (by omega)) rfl)))) (fun b hb => by unfold trace_Charge_L4_step; exact ite_f (by omega) rfl)).1
theorem trips_find {s : Tapi_State} (h : FitC s) (k : List UInt8) : lp (trace_Charge_L19_step s k) 0 = some (match tidx s k with | some i => .inl i | none => .inr ()) :=
  lp_find0 (l := s.Result.Trips) (step := trace_Charge_L19_step s k) (fun t => decide (([116, 58] : List UInt8) ++ t.ID = k)) (fun i => i) (fun i x hx hi => by
    have hid : x.ID.length ≤ reachBytes := h.tid x (List.mem_of_getElem? hx)
    unfold reachBytes at hid
    have := h.f.trips
    unfold trace_Charge_L19_step
    refine ite_t (by omega) (bind_i hx (guard_i (by simp; omega) ?_))
    by_cases hb : ([116, 58] : List UInt8) ++ x.ID = k
    · rw [decide_eq_true hb]; exact ite_t hb rfl
    · rw [decide_eq_false hb]; exact ite_f hb (guard_i (inR_i64.2 (by omega)) rfl)) (by unfold trace_Charge_L19_step; exact ite_f (by omega) rfl)
theorem stays_find {s : Tapi_State} (h : FitC s) (k : List UInt8) : lp (trace_Charge_L86_step s k) 0 = some (match sidx s k with | some i => .inl i | none => .inr ()) :=
  lp_find0 (l := s.Result.Stays) (step := trace_Charge_L86_step s k) (fun t => decide (([112, 58] : List UInt8) ++ t.ID = k)) (fun i => i) (fun i x hx hi => by
    have hid : x.ID.length ≤ reachBytes := h.sid x (List.mem_of_getElem? hx)
    unfold reachBytes at hid
    have := h.f.stays
    unfold trace_Charge_L86_step
    refine ite_t (by omega) (bind_i hx (guard_i (by simp; omega) ?_))
    by_cases hb : ([112, 58] : List UInt8) ++ x.ID = k
    · rw [decide_eq_true hb]; exact ite_t hb rfl
    · rw [decide_eq_false hb]; exact ite_f hb (guard_i (inR_i64.2 (by omega)) rfl)) (by unfold trace_Charge_L86_step; exact ite_f (by omega) rfl)
theorem done_find {s : Tapi_State} (h : FitC s) (k : List UInt8) : lp (trace_Charge_L106_step s k) 0 = some (match cidx s.Books.Done k with | some i => .inl i | none => .inr ()) :=
  lp_find0 (l := s.Books.Done) (step := trace_Charge_L106_step s k) (fun t => decide (t.Key = k)) (fun i => i) (fun i x hx hi => by
    have := h.f.done
    unfold trace_Charge_L106_step
    refine ite_t (by omega) (bind_i hx ?_)
    by_cases hb : x.Key = k
    · rw [decide_eq_true hb]; exact ite_t hb rfl
    · rw [decide_eq_false hb]; exact ite_f hb (guard_i (inR_i64.2 (by omega)) rfl)) (by unfold trace_Charge_L106_step; exact ite_f (by omega) rfl)
/-- the last part of Charge, behind the facts a -/
theorem tail_eq {s : Tapi_State} (h : FitC s) (k : List UInt8) (c : Tapi_Charge) (a : List Tapi_Fact) (ha : a.length ≤ 100000) :
    ((account_Owner s.Config.Accounts c.Vehicle c.Time).bind fun r =>
      if r.2 = true then
        if a.length + 1 ≤ 4294967296 then
          (lp (trace_Charge_L106_step s k) (0 : Nat)).bind fun qq => match qq with
          | Sum.inl o => if ((a ++ [(⟨([97, 99, 99, 111, 117, 110, 116] : List UInt8), r.1, 0⟩ : Tapi_Fact)]).length) + 1 ≤ 4294967296 then some (((a ++ [(⟨([97, 99, 99, 111, 117, 110, 116] : List UInt8), r.1, 0⟩ : Tapi_Fact)]) ++ [(⟨([112, 111, 115, 116, 101, 100] : List UInt8), k, 0⟩ : Tapi_Fact)]), (0 : Int)) else none
          | Sum.inr (o) => some ((a ++ [(⟨([97, 99, 99, 111, 117, 110, 116] : List UInt8), r.1, 0⟩ : Tapi_Fact)]), (0 : Int))
        else none
      else
        if a.length + 1 ≤ 4294967296 then
          (lp (trace_Charge_L106_step s k) (0 : Nat)).bind fun qq => match qq with
          | Sum.inl o => if ((a ++ [(⟨([118, 101, 104, 105, 99, 108, 101] : List UInt8), c.Vehicle, 17⟩ : Tapi_Fact)]).length) + 1 ≤ 4294967296 then some (((a ++ [(⟨([118, 101, 104, 105, 99, 108, 101] : List UInt8), c.Vehicle, 17⟩ : Tapi_Fact)]) ++ [(⟨([112, 111, 115, 116, 101, 100] : List UInt8), k, 0⟩ : Tapi_Fact)]), (0 : Int)) else none
          | Sum.inr (o) => some ((a ++ [(⟨([118, 101, 104, 105, 99, 108, 101] : List UInt8), c.Vehicle, 17⟩ : Tapi_Fact)]), (0 : Int))
        else none) = some ((a ++ owF s c) ++ doF s k, 0) := by
  refine bind_i (owner_eq s.Config.Accounts h.f.acc h.f.own c.Vehicle c.Time) ?_
  unfold owF doF
  by_cases ho : (ownerR s.Config.Accounts c.Vehicle c.Time).2 = true
  · rw [if_pos ho, if_pos ho]
    refine guard_i (by omega) (bind_i (done_find h k) ?_)
    cases hd : cidx s.Books.Done k with
    | none => simp
    | some i => exact guard_i (by simp; omega) (by simp)
  · rw [if_neg ho, if_neg ho]
    refine guard_i (by omega) (bind_i (done_find h k) ?_)
    cases hd : cidx s.Books.Done k with
    | none => simp
    | some i => exact guard_i (by simp; omega) (by simp)
theorem tidx_some {s : Tapi_State} {k : List UInt8} {i : Nat} (h : tidx s k = some i) : ∃ x, s.Result.Trips[i]? = some x ∧ x ∈ s.Result.Trips := by
  obtain ⟨-, y, hy, hy2⟩ := fidx_some h
  rw [Nat.sub_zero] at hy
  exact ⟨y, hy, List.mem_of_getElem? hy⟩
theorem sidx_some {s : Tapi_State} {k : List UInt8} {i : Nat} (h : sidx s k = some i) : ∃ x, s.Result.Stays[i]? = some x := by
  obtain ⟨-, y, hy, hy2⟩ := fidx_some h
  rw [Nat.sub_zero] at hy
  exact ⟨y, hy⟩
theorem charge_eq {s : Tapi_State} (h : FitC s) (k : List UInt8) : trace_Charge s k = some (chargeR s k) := by
  unfold trace_Charge chargeR
  refine bind_i (charged_eq s.Result k h.f.chg) ?_
  cases hc : cidx s.Result.Charges k with
  | none => exact ite_f (fun h => Bool.false_ne_true h) rfl
  | some i =>
    obtain ⟨-, hm, hk⟩ := cidx_mem hc
    dsimp only
    have hl := h.f.lines _ hm
    have h2 := flat_len (g := linF) 1 (fun x => by simp [linF]) (s.Result.Charges.getD i noCharge).Lines
    refine ite_t rfl (bind_i (lines_loop s k ((s.Result.Charges.getD i noCharge), true) hl _ (by simp)) (bind_i (trips_find h k) ?_))
    rw [hk]
    unfold chR
    have ha0 : (([⟨[99, 104, 97, 114, 103, 101], k, 0⟩] : List Tapi_Fact) ++ (s.Result.Charges.getD i noCharge).Lines.flatMap linF).length ≤ 41 := by
      rw [List.length_append, List.length_cons, List.length_nil]; omega
    generalize ([⟨[99, 104, 97, 114, 103, 101], k, 0⟩] : List Tapi_Fact) ++ (s.Result.Charges.getD i noCharge).Lines.flatMap linF = a0 at ha0
    cases ht : tidx s k with
    | some i2 =>
      obtain ⟨x, hx, hxm⟩ := tidx_some ht
      have e1 : atF s.Result.Trips (trF s.Result) (some i2) = [⟨[116, 114, 105, 112], x.ID, 0⟩] ++ x.Stops.flatMap (stopF s.Result) := by unfold atF; dsimp only; rw [hx]; rfl
      have h3 := trF_len h hxm
      unfold trF at h3
      refine bind_i hx (guard_i (by omega) (bind_i (stops_loop h k _ x (h.f.stops x hxm) _ (by simp; omega)) (bind_i (stays_find h k) ?_)))
      rw [e1, List.append_assoc]
      have ha1 : (a0 ++ ([(⟨[116, 114, 105, 112], x.ID, 0⟩ : Tapi_Fact)] ++ x.Stops.flatMap (stopF s.Result))).length ≤ 2000 := by
        rw [List.length_append]; omega
      generalize a0 ++ ([(⟨[116, 114, 105, 112], x.ID, 0⟩ : Tapi_Fact)] ++ x.Stops.flatMap (stopF s.Result)) = a1 at ha1
      cases hs : sidx s k with
      | some j =>
        obtain ⟨y, hy⟩ := sidx_some hs
        have e2 : atF s.Result.Stays stayF (some j) = [⟨[115, 116, 97, 121], y.ID, 0⟩] := by unfold atF; dsimp only; rw [hy]; rfl
        rw [e2]
        exact bind_i hy (guard_i (by omega) (tail_eq h k (s.Result.Charges.getD i noCharge) (a1 ++ [(⟨[115, 116, 97, 121], y.ID, 0⟩ : Tapi_Fact)]) (by simp; omega)))
      | none =>
        have e2 : atF s.Result.Stays stayF none = [] := rfl
        rw [e2, List.append_nil]
        exact tail_eq h k (s.Result.Charges.getD i noCharge) a1 (by omega)
    | none =>
      have e1 : atF s.Result.Trips (trF s.Result) none = [] := rfl
      rw [e1, List.append_nil]
      refine bind_i (stays_find h k) ?_
      cases hs : sidx s k with
      | some j =>
        obtain ⟨y, hy⟩ := sidx_some hs
        have e2 : atF s.Result.Stays stayF (some j) = [⟨[115, 116, 97, 121], y.ID, 0⟩] := by unfold atF; dsimp only; rw [hy]; rfl
        rw [e2]
        exact bind_i hy (guard_i (by omega) (tail_eq h k (s.Result.Charges.getD i noCharge) (a0 ++ [(⟨[115, 116, 97, 121], y.ID, 0⟩ : Tapi_Fact)]) (by simp; omega)))
      | none =>
        have e2 : atF s.Result.Stays stayF none = [] := rfl
        rw [e2, List.append_nil]
        exact tail_eq h k (s.Result.Charges.getD i noCharge) a0 (by omega)

/-! ### the reference -/
theorem lp_once {α γ : Type} {l : List α} {step : (Bool × Nat × List γ) → Option ((Bool × Nat × List γ) ⊕ List γ)} (p : α → Bool) (g : α → List γ) (a : List γ)
    (hs : ∀ k x, l[k]? = some x → k < l.length → step (false, k, a) = some (.inl (if p x = true then (true, k + 1, a ++ g x) else (false, k + 1, a))))
    (he : step (false, l.length, a) = some (.inr a)) (ht : ∀ k b, k ≤ l.length → step (true, k, b) = some (.inr b)) : lp step (false, 0, a) = some (a ++ atF l g (fidx p l 0)) := by
  have key : ∀ m k, k + m = l.length → lp step (false, k, a) = some (a ++ atF l g (fidx p (l.drop k) k)) := by
    intro m
    induction m with
    | zero =>
      intro k hk
      have hk : k = l.length := by omega
      subst hk
      rw [lp_end he, List.drop_length]
      simp [fidx, atF]
    | succ m ih =>
      intro k hk
      have hlt : k < l.length := by omega
      have hx := List.getElem?_eq_getElem hlt
      have h1 := hs k l[k] hx hlt
      rw [List.drop_eq_getElem_cons hlt]
      unfold fidx
      by_cases hp : p l[k] = true
      · rw [if_pos hp] at h1 ⊢
        rw [lp_go h1, lp_end (ht (k + 1) _ (by omega))]
        simp only [atF, hx]
      · rw [if_neg hp] at h1 ⊢
        rw [lp_go h1]
        exact ih (k + 1) (by omega)
  have := key l.length 0 (by omega)
  simpa using this
theorem rsrc_loop {s : Tapi_State} (h : FitC s) (t : Tapi_Trip) (k6 : Nat) (id : List UInt8) (a : List Tapi_Fact) (ha : a.length ≤ 10000) :
    lp (tollwayref52_stops_L44_step s.Result t k6 (match pidx s.Result.Passages id with | some i => (i : Int) | none => -1)) (0, a) = some (a ++ (srcsR s.Result id).flatMap srcF) := by
  have hs := srcsR_fit h id
  unfold srcsR at hs ⊢
  cases hp : pidx s.Result.Passages id with
  | none => exact (lp_end (by unfold tollwayref52_stops_L44_step; exact ite_f (by decide) rfl)).trans (by simp)
  | some i =>
    rw [hp] at hs
    dsimp only at hs ⊢
    obtain ⟨hg, hm⟩ := pidx_mem hp
    refine (lp_flat0 (l := (s.Result.Passages.getD i noPassage).Sources) (step := tollwayref52_stops_L44_step s.Result t k6 (i : Int)) (g := srcF) (out := fun a => a) 1 a (fun x _ => by simp [srcF]) (fun k x b hx hxm hk1 hb => ?_) (fun b hb => ?_)).1
    · unfold tollwayref52_stops_L44_step
      exact ite_t (by omega) (guard_i (by omega) (bind_i (by rw [Int.toNat_natCast]; exact hg) (ite_t (by omega) (bind_i hx (bind_i (rkey_eq x (hs.2 x hxm)) (guard_i (by omega) (guard_i (inR_i64.2 (by omega)) rfl)))))))
    · unfold tollwayref52_stops_L44_step
      exact ite_t (by omega) (guard_i (by omega) (bind_i (by rw [Int.toNat_natCast]; exact hg) (ite_f (by omega) rfl)))
theorem rstops_eq {s : Tapi_State} (h : FitC s) (t : Tapi_Trip) (ht : t.Stops.length ≤ 40) : tollwayref52_stops s.Result t = some (trF s.Result t) := by
  unfold tollwayref52_stops
  refine bind_i ?_ rfl
  exact (lp_flat0 (l := t.Stops) (step := tollwayref52_stops_L1_step s.Result t) (g := stopF s.Result) (out := fun a => a) 41 [⟨[116, 114, 105, 112], t.ID, 0⟩] (fun y _ => stopF_len h y) (fun i y b hy hm hi hb => by
    simp only [List.length_cons, List.length_nil] at hb
    unfold tollwayref52_stops_L1_step
    refine ite_t (by omega) (bind_i hy ?_)
    unfold stopF
    by_cases hp : y.Passage = []
    · refine ite_t hp ?_; rw [if_pos hp]; exact guard_i (by omega) (guard_i (inR_i64.2 (by omega)) rfl)
    · refine ite_f hp ?_
      rw [if_neg hp]
      refine (guard_i (by omega) (bind_i (rpassage_eq s.Result.Passages y.Passage h.f.pas) ?_))
      refine bind_i (rsrc_loop h t i y.Passage _ (by simp; omega)) (guard_i (inR_i64.2 (by omega)) ?_)
      rw [List.append_assoc]) (fun b hb => by unfold tollwayref52_stops_L1_step; exact ite_f (by simp) rfl)).1
theorem rtail_eq {s : Tapi_State} (h : FitC s) (k : List UInt8) (c : Tapi_Charge) (a : List Tapi_Fact) (ha : a.length ≤ 100000) :
    ((tollwayref33_Owner s.Config.Accounts c.Vehicle c.Time).bind fun r60 =>
      if r60.2 = true then
        if a.length + 1 ≤ 4294967296 then
          (tollwayref52_charge s.Books.Done k).bind fun r64 =>
          if r64 ≥ (0 : Int) then
            if ((a ++ [(⟨([97, 99, 99, 111, 117, 110, 116] : List UInt8), r60.1, 0⟩ : Tapi_Fact)]).length) + 1 ≤ 4294967296 then
              some (((a ++ [(⟨([97, 99, 99, 111, 117, 110, 116] : List UInt8), r60.1, 0⟩ : Tapi_Fact)]) ++ [(⟨([112, 111, 115, 116, 101, 100] : List UInt8), k, 0⟩ : Tapi_Fact)]), (0 : Int))
            else none
          else
            some ((a ++ [(⟨([97, 99, 99, 111, 117, 110, 116] : List UInt8), r60.1, 0⟩ : Tapi_Fact)]), (0 : Int))
        else none
      else
        if a.length + 1 ≤ 4294967296 then
          (tollwayref52_charge s.Books.Done k).bind fun r69 =>
          if r69 ≥ (0 : Int) then
            if ((a ++ [(⟨([118, 101, 104, 105, 99, 108, 101] : List UInt8), c.Vehicle, 17⟩ : Tapi_Fact)]).length) + 1 ≤ 4294967296 then
              some (((a ++ [(⟨([118, 101, 104, 105, 99, 108, 101] : List UInt8), c.Vehicle, 17⟩ : Tapi_Fact)]) ++ [(⟨([112, 111, 115, 116, 101, 100] : List UInt8), k, 0⟩ : Tapi_Fact)]), (0 : Int))
            else none
          else
            some ((a ++ [(⟨([118, 101, 104, 105, 99, 108, 101] : List UInt8), c.Vehicle, 17⟩ : Tapi_Fact)]), (0 : Int))
        else none) = some ((a ++ owF s c) ++ doF s k, 0) := by
  refine bind_i (rowner_eq s.Config.Accounts h.f.acc h.f.own c.Vehicle c.Time) ?_
  unfold owF doF
  by_cases ho : (ownerR s.Config.Accounts c.Vehicle c.Time).2 = true
  · rw [if_pos ho, if_pos ho]
    refine guard_i (by omega) (bind_i (rcharge_eq s.Books.Done k h.f.done) ?_)
    cases hd : cidx s.Books.Done k with
    | none => exact ite_f (by decide) (by simp)
    | some i => exact ite_t (by simp) (guard_i (by simp; omega) (by simp))
  · rw [if_neg ho, if_neg ho]
    refine guard_i (by omega) (bind_i (rcharge_eq s.Books.Done k h.f.done) ?_)
    cases hd : cidx s.Books.Done k with
    | none => exact ite_f (by decide) (by simp)
    | some i => exact ite_t (by simp) (guard_i (by simp; omega) (by simp))
theorem rcharge_all {s : Tapi_State} (h : FitC s) (k : List UInt8) : tollwayref52_Charge s k = some (chargeR s k) := by
  unfold tollwayref52_Charge chargeR
  refine bind_i (rcharge_eq s.Result.Charges k h.f.chg) ?_
  cases hc : cidx s.Result.Charges k with
  | none => exact ite_t (by decide) rfl
  | some i =>
    obtain ⟨hg, hm, hk⟩ := cidx_mem hc
    dsimp only
    have hl := h.f.lines _ hm
    have h2 := flat_len (g := linF) 1 (fun x => by simp [linF]) (s.Result.Charges.getD i noCharge).Lines
    refine ite_f (Int.not_lt.2 (Int.natCast_nonneg _)) (guard_i (Int.natCast_nonneg _) (bind_i (by rw [Int.toNat_natCast]; exact hg) ?_))
    have k1 := (lp_flat0 (l := (s.Result.Charges.getD i noCharge).Lines) (step := tollwayref52_Charge_L7_step s k (s.Result.Charges.getD i noCharge)) (g := linF) (out := fun a => a) 1 [⟨[99, 104, 97, 114, 103, 101], k, 0⟩] (fun x _ => by simp [linF]) (fun i2 x b hx hm hi hb => by
      simp only [List.length_cons, List.length_nil] at hb
      unfold tollwayref52_Charge_L7_step
      exact ite_t (by omega) (bind_i hx (guard_i (by omega) (guard_i (inR_i64.2 (by omega)) rfl)))) (fun b hb => by unfold tollwayref52_Charge_L7_step; exact ite_f (by omega) rfl)).1
    refine bind_i k1 ?_
    unfold chR
    have ha0 : (([⟨[99, 104, 97, 114, 103, 101], k, 0⟩] : List Tapi_Fact) ++ (s.Result.Charges.getD i noCharge).Lines.flatMap linF).length ≤ 41 := by
      rw [List.length_append, List.length_cons, List.length_nil]; omega
    generalize ([⟨[99, 104, 97, 114, 103, 101], k, 0⟩] : List Tapi_Fact) ++ (s.Result.Charges.getD i noCharge).Lines.flatMap linF = a0 at ha0
    have ht := atT_len h (tidx s k)
    have k2 := lp_once (l := s.Result.Trips) (step := tollwayref52_Charge_L18_step s k (s.Result.Charges.getD i noCharge)) (fun t : Tapi_Trip => decide (([116, 58] : List UInt8) ++ t.ID = k)) (trF s.Result) a0 (fun i2 x hx hi => by
      have hid : x.ID.length ≤ reachBytes := h.tid x (List.mem_of_getElem? hx)
      unfold reachBytes at hid
      have := h.f.trips
      have h3 := trF_len h (List.mem_of_getElem? hx)
      unfold tollwayref52_Charge_L18_step
      refine ite_t (by omega) (ite_f (by decide) (bind_i hx (guard_i (by simp; omega) ?_)))
      by_cases hb : ([116, 58] : List UInt8) ++ x.ID = k
      · rw [decide_eq_true hb]; exact ite_t hb.symm (bind_i (rstops_eq h x (h.f.stops x (List.mem_of_getElem? hx))) (guard_i (by omega) (guard_i (inR_i64.2 (by omega)) rfl)))
      · rw [decide_eq_false hb]; exact ite_f (fun e => hb e.symm) (guard_i (inR_i64.2 (by omega)) rfl)) (by unfold tollwayref52_Charge_L18_step; exact ite_f (by omega) rfl) (fun j b hj => by
      unfold tollwayref52_Charge_L18_step
      by_cases hc : (j : Int) < (s.Result.Trips.length : Int)
      · exact ite_t hc (ite_t rfl rfl)
      · exact ite_f hc rfl)
    refine bind_i k2 ?_
    have e1 : fidx (fun t : Tapi_Trip => decide (([116, 58] : List UInt8) ++ t.ID = k)) s.Result.Trips 0 = tidx s k := rfl
    rw [e1]
    have ha1 : (a0 ++ atF s.Result.Trips (trF s.Result) (tidx s k)).length ≤ 2000 := by rw [List.length_append]; omega
    generalize a0 ++ atF s.Result.Trips (trF s.Result) (tidx s k) = a1 at ha1
    have k3 := lp_once (l := s.Result.Stays) (step := tollwayref52_Charge_L41_step s k (s.Result.Charges.getD i noCharge)) (fun t : Tapi_Stay => decide (([112, 58] : List UInt8) ++ t.ID = k)) stayF a1 (fun i2 x hx hi => by
      have hid : x.ID.length ≤ reachBytes := h.sid x (List.mem_of_getElem? hx)
      unfold reachBytes at hid
      have := h.f.stays
      unfold tollwayref52_Charge_L41_step
      refine ite_t (by omega) (ite_f (by decide) (bind_i hx (guard_i (by simp; omega) ?_)))
      by_cases hb : ([112, 58] : List UInt8) ++ x.ID = k
      · rw [decide_eq_true hb]; exact ite_t hb.symm (guard_i (by omega) (guard_i (inR_i64.2 (by omega)) rfl))
      · rw [decide_eq_false hb]; exact ite_f (fun e => hb e.symm) (guard_i (inR_i64.2 (by omega)) rfl)) (by unfold tollwayref52_Charge_L41_step; exact ite_f (by omega) rfl) (fun j b hj => by
      unfold tollwayref52_Charge_L41_step
      by_cases hc : (j : Int) < (s.Result.Stays.length : Int)
      · exact ite_t hc (ite_t rfl rfl)
      · exact ite_f hc rfl)
    refine bind_i k3 ?_
    have e2 : fidx (fun t : Tapi_Stay => decide (([112, 58] : List UInt8) ++ t.ID = k)) s.Result.Stays 0 = sidx s k := rfl
    rw [e2]
    have hs := atS_len s (sidx s k)
    exact rtail_eq h k (s.Result.Charges.getD i noCharge) (a1 ++ atF s.Result.Stays stayF (sidx s k)) (by rw [List.length_append]; omega)
theorem charges_true (s : Tapi_State) (k : List UInt8) (hc : Fits s → FitC s) : tollwaylaw52_TraceCharges s k = some true := by
  unfold tollwaylaw52_TraceCharges
  rcases great_eq s with hg | ⟨hg, hf⟩
  · exact bind_i hg (ite_t rfl (bind_i trace_awake_true rfl))
  · have h := hc hf
    exact bind_i hg (ite_f (by decide) (bind_i (charge_eq h k) (bind_i (rcharge_all h k) (bind_i (same_refl _ (chargeR_len h k)) (ite_t rfl (ite_t rfl (bind_i trace_awake_true rfl)))))))
end Go.Proofs.YtalobodhbbkgdabDoor.Av
