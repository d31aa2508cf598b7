/- Trace: keys, facts, Detection and Passage; the laws TraceDetections and TracePassages. -/
import Derived.Test.YtalobodhbbkgdabDoorPTr3
import Derived.Test.YtalobodhbbkgdabDoorAvYW
set_option linter.unusedVariables false
set_option linter.unusedSimpArgs false
namespace Go.Proofs.YtalobodhbbkgdabDoor.Av
theorem cutK' {α : Type} {l : List α} {k : Nat} {x : α} (h : l[k]? = some x) : List.drop k (List.take (k + 1) l) = [x] := by
  have hlt : k < l.length := get_lt h
  rw [List.getElem?_eq_getElem hlt] at h
  simp only [Option.some.injEq] at h
  rw [List.drop_take, show k + 1 - k = 1 by omega, List.drop_eq_getElem_cons hlt, h]
  rfl
theorem dec_len1 : ∀ (k m : Nat), 1 ≤ k → m < 10 ^ k → (Go.Lib.decDigits m).length ≤ k
  | 0, m, h, _ => by omega
  | k + 1, m, _, hm => by
    rw [Go.Lib.decDigits]
    split
    · simp
    · rename_i h10
      rcases Nat.eq_zero_or_pos k with rfl | hk
      · omega
      · have := dec_len1 k (m / 10) hk (by rw [Nat.pow_succ] at hm; omega)
        simp; omega
theorem digT {d : Nat} (h : d < 10) : ([48, 49, 50, 51, 52, 53, 54, 55, 56, 57] : List UInt8)[d]? = some (UInt8.ofNat (48 + d)) := by
  have : ∀ d : Fin 10, ([48, 49, 50, 51, 52, 53, 54, 55, 56, 57] : List UInt8)[d.val]? = some (UInt8.ofNat (48 + d.val)) := by decide
  exact this ⟨d, h⟩
theorem itoa_len (n : Int) (h : InR .i64 n) : (Go.Lib.itoa n).length ≤ 20 := by
  rw [inR_i64] at h
  unfold Go.Lib.itoa
  split
  · have := dec_len1 19 n.natAbs (by decide) (by omega)
    simp; omega
  · have := dec_len1 19 n.toNat (by decide) (by omega)
    omega
/-- the digits from the last on -/
theorem fmt_loop (n : Int) : ∀ (f : Nat) (acc : List UInt8) (m : Int), f ≤ 20 → acc.length + f ≤ 20 → m.natAbs < 10 ^ f → InR .i64 m →
    lp (tollwayref01_Format_L2_step n) (acc, m) = some ((if m = 0 then [] else Go.Lib.decDigits m.natAbs) ++ acc)
  | 0, acc, m, _, _, hm, _ => by
    have : m = 0 := by omega
    subst this
    refine lp_end ?_
    unfold tollwayref01_Format_L2_step
    exact ite_t rfl rfl
  | f + 1, acc, m, hf, ha, hm, hr => by
    have hr2 := inR_i64.1 hr
    by_cases h0 : m = 0
    · subst h0
      refine lp_end ?_
      unfold tollwayref01_Format_L2_step
      exact ite_t rfl rfl
    · have hq : ∃ q : Int, Int.tdiv m 10 = q ∧ q.natAbs = m.natAbs / 10 ∧ InR .i64 q := by
        refine ⟨_, rfl, by rw [Int.natAbs_tdiv]; rfl, ?_⟩
        have e : (Int.tdiv m 10).natAbs = m.natAbs / 10 := by rw [Int.natAbs_tdiv]; rfl
        exact inR_i64.2 (by omega)
      obtain ⟨q, hq, hqa, hqr⟩ := hq
      have hstep : tollwayref01_Format_L2_step n (acc, m) = some (.inl ([UInt8.ofNat (48 + m.natAbs % 10)] ++ acc, q)) := by
        unfold tollwayref01_Format_L2_step
        refine ite_f h0 ?_
        have e : (Int.tmod m 10).natAbs = m.natAbs % 10 := by rw [Int.natAbs_tmod]; rfl
        have hd : m.natAbs % 10 < 10 := Nat.mod_lt _ (by decide)
        generalize hdd : m.natAbs % 10 = d at e hd ⊢
        rw [hq]
        by_cases hneg : Int.tmod m 10 < 0
        · refine ite_t hneg ?_
          have e1 : 0 - Int.tmod m 10 = (d : Int) := by omega
          rw [e1, show Int.toNat ((d : Int) + 1) = d + 1 by omega, Int.toNat_natCast, cutK' (digT hd)]
          exact guard_i (inR_i64.2 (by omega)) (guard_i (inR_i64.2 (by omega)) (guard_i (by omega) (guard_i (by omega) (guard_i (by omega) (guard_i (by omega) (bind_i rfl (guard_i (by simp; omega) (guard_i hqr rfl))))))))
        · refine ite_f hneg ?_
          have e1 : Int.tmod m 10 = (d : Int) := by omega
          rw [e1, show Int.toNat ((d : Int) + 1) = d + 1 by omega, Int.toNat_natCast, cutK' (digT hd)]
          exact guard_i (inR_i64.2 (by omega)) (guard_i (by omega) (guard_i (by omega) (guard_i (by omega) (guard_i (by omega) (bind_i rfl (guard_i (by simp; omega) (guard_i hqr rfl)))))))
      rw [lp_go hstep, fmt_loop n f _ q (by omega) (by simp; omega) (by rw [hqa]; rw [Nat.pow_succ] at hm; omega) hqr, if_neg h0]
      by_cases hq0 : q = 0
      · rw [if_pos hq0]
        have hs : m.natAbs < 10 := by omega
        rw [Go.Lib.decDigits_one hs, Nat.mod_eq_of_lt hs]
        simp
      · rw [if_neg hq0, Go.Lib.decDigits.eq_1 m.natAbs, dif_neg (by omega), hqa]
        simp
theorem fmt_eq (n : Int) (h : InR .i64 n) : tollwayref01_Format n = some (Go.Lib.itoa n) := by
  have h2 := inR_i64.1 h
  unfold tollwayref01_Format
  by_cases h0 : n = 0
  · subst h0
    rw [if_pos rfl]
    unfold Go.Lib.itoa
    rw [if_neg (by omega)]
    rw [show Int.toNat 0 = 0 from rfl, Go.Lib.decDigits_one (by decide)]
    rfl
  · refine ite_f h0 (bind_i (fmt_loop n 20 [] n (by decide) (by simp) (by omega) h) ?_)
    rw [if_neg h0, List.append_nil]
    have hl := dec_len1 19 n.natAbs (by decide) (by omega)
    unfold Go.Lib.itoa
    by_cases hn : n < 0
    · simp only [if_pos hn]
      exact guard_i (by simp; omega) rfl
    · simp only [if_neg hn]
      rw [show n.natAbs = n.toNat by omega]
/-- the key of a source -/
def keyR (x : Tapi_Source) : List UInt8 := (x.Device ++ [46]) ++ Go.Lib.itoa x.Seq
theorem key_eq (x : Tapi_Source) (h : swfW x.Device ∧ InR .i64 x.Seq) : trace_key x = some (keyR x) := by
  obtain ⟨h1, h2⟩ := h
  have := itoa_len x.Seq h2
  unfold trace_key text_Format itoaF
  have hm : x.Device.length ≤ reachBytes := h1
  unfold reachBytes at hm
  exact guard_i (by simp; omega) (bind_i (by rw [if_pos h2]; rfl) (guard_i (by simp; omega) rfl))
theorem rkey_eq (x : Tapi_Source) (h : swfW x.Device ∧ InR .i64 x.Seq) : tollwayref52_key x = some (keyR x) := by
  obtain ⟨h1, h2⟩ := h
  have := itoa_len x.Seq h2
  unfold tollwayref52_key
  have hm : x.Device.length ≤ reachBytes := h1
  unfold reachBytes at hm
  exact guard_i (by simp; omega) (bind_i (fmt_eq _ h2) (guard_i (by simp; omega) rfl))
/-! ### known -/
def isB (x : Tapi_Source) (d : Tapi_Detection) : Bool := decide (d.Device = x.Device) && (d.Seq == x.Seq)
theorem from_eq (d : Tapi_Detection) (x : Tapi_Source) : trace_from d x = some (isB x d) := by
  unfold trace_from isB
  by_cases h : d.Device = x.Device
  · rw [if_pos h]; simp [h]
  · rw [if_neg h]; simp [h]
theorem is_eq (d : Tapi_Detection) (x : Tapi_Source) : tollwayref52_is d x = some (isB x d) := from_eq d x
def knownB (s : Tapi_State) (x : Tapi_Source) : Bool := s.Seen.any (fun y => isB x y.D) || (s.Rejects.any (fun y => isB x y.D) || s.Result.Rejects.any (fun y => isB x y.D))
theorem known_eq (s : Tapi_State) (hf : Fits s) (x : Tapi_Source) : trace_known s x = some (knownB s x) := by
  have l1 := hf.seen; have l2 := hf.rej; have l3 := hf.rrej
  have k1 := lp_find0 (l := s.Seen) (step := trace_known_L1_step s x) (fun y => isB x y.D) (fun _ => ()) (fun k y hy hk => by
    unfold trace_known_L1_step
    refine ite_t (by omega) (bind_i hy (bind_i (from_eq _ _) ?_))
    cases hb : isB x y.D
    · exact ite_f (by decide) (guard_i (inR_i64.2 (by omega)) rfl)
    · exact ite_t rfl rfl) (by unfold trace_known_L1_step; exact ite_f (by omega) rfl)
  have k2 := lp_find0 (l := s.Rejects) (step := trace_known_L16_step s x) (fun y => isB x y.D) (fun k => (k : Int)) (fun k y hy hk => by
    unfold trace_known_L16_step
    refine ite_t (by omega) (bind_i hy (bind_i (from_eq _ _) ?_))
    cases hb : isB x y.D
    · exact ite_f (by decide) (guard_i (inR_i64.2 (by omega)) rfl)
    · exact ite_t rfl rfl) (by unfold trace_known_L16_step; exact ite_f (by omega) rfl)
  have k3 := lp_find0 (l := s.Result.Rejects) (step := trace_known_L32_step s x) (fun y => isB x y.D) (fun k => (k : Int)) (fun k y hy hk => by
    unfold trace_known_L32_step
    refine ite_t (by omega) (bind_i hy (bind_i (from_eq _ _) ?_))
    cases hb : isB x y.D
    · exact ite_f (by decide) (guard_i (inR_i64.2 (by omega)) rfl)
    · exact ite_t rfl rfl) (by unfold trace_known_L32_step; exact ite_f (by omega) rfl)
  unfold trace_known knownB
  rw [k1, k2, k3, ← fidx_any s.Seen 0, ← fidx_any s.Rejects 0, ← fidx_any s.Result.Rejects 0]
  cases fidx (fun y : Tapi_Seen => isB x y.D) s.Seen 0 with
  | some i => rfl
  | none =>
    cases fidx (fun y : Tapi_Reject => isB x y.D) s.Rejects 0 with
    | some i => exact bind_i rfl (bind_i rfl (ite_t (by omega) rfl))
    | none =>
      cases fidx (fun y : Tapi_Reject => isB x y.D) s.Result.Rejects 0 with
      | some i => simp only [Option.bind_some, Option.isSome_some, Option.isSome_none, Bool.false_or, Option.some.injEq]; exact decide_eq_true (by omega)
      | none => rfl
theorem rknown_eq (s : Tapi_State) (hf : Fits s) (x : Tapi_Source) : tollwayref52_known s x = some (knownB s x) := by
  have l1 := hf.seen; have l2 := hf.rej; have l3 := hf.rrej
  have k1 := lp_find0 (l := s.Seen) (step := tollwayref52_known_L1_step s x) (fun y => isB x y.D) (fun _ => ()) (fun k y hy hk => by
    unfold tollwayref52_known_L1_step
    refine ite_t (by omega) (bind_i hy (bind_i (is_eq _ _) ?_))
    cases hb : isB x y.D
    · exact ite_f (by decide) (guard_i (inR_i64.2 (by omega)) rfl)
    · exact ite_t rfl rfl) (by unfold tollwayref52_known_L1_step; exact ite_f (by omega) rfl)
  have k2 := lp_find0 (l := s.Rejects) (step := tollwayref52_known_L16_step s x) (fun y => isB x y.D) (fun k => ()) (fun k y hy hk => by
    unfold tollwayref52_known_L16_step
    refine ite_t (by omega) (bind_i hy (bind_i (is_eq _ _) ?_))
    cases hb : isB x y.D
    · exact ite_f (by decide) (guard_i (inR_i64.2 (by omega)) rfl)
    · exact ite_t rfl rfl) (by unfold tollwayref52_known_L16_step; exact ite_f (by omega) rfl)
  have k3 := lp_find0 (l := s.Result.Rejects) (step := tollwayref52_known_L31_step s x) (fun y => isB x y.D) (fun k => ()) (fun k y hy hk => by
    unfold tollwayref52_known_L31_step
    refine ite_t (by omega) (bind_i hy (bind_i (is_eq _ _) ?_))
    cases hb : isB x y.D
    · exact ite_f (by decide) (guard_i (inR_i64.2 (by omega)) rfl)
    · exact ite_t rfl rfl) (by unfold tollwayref52_known_L31_step; exact ite_f (by omega) rfl)
  unfold tollwayref52_known knownB
  rw [k1, k2, k3, ← fidx_any s.Seen 0, ← fidx_any s.Rejects 0, ← fidx_any s.Result.Rejects 0]
  cases fidx (fun y : Tapi_Seen => isB x y.D) s.Seen 0 with
  | some i => rfl
  | none =>
    cases fidx (fun y : Tapi_Reject => isB x y.D) s.Rejects 0 with
    | some i => rfl
    | none =>
      cases fidx (fun y : Tapi_Reject => isB x y.D) s.Result.Rejects 0 with
      | some i => rfl
      | none => rfl
/-! ### charges and passages by their names -/
def cidx (l : List Tapi_Charge) (key : List UInt8) : Option Nat := fidx (fun x => decide (x.Key = key)) l 0
def pidx (l : List Tapi_Passage) (id : List UInt8) : Option Nat := fidx (fun x => decide (x.ID = id)) l 0
def noCharge : Tapi_Charge := ⟨[], [], [], 0, 0, [], 0⟩
def noPassage : Tapi_Passage := ⟨[], [], 0, [], [], 0, 0, []⟩
theorem charged_eq (r : Tapi_Result) (key : List UInt8) (hl : r.Charges.length ≤ 120) : trace_charged r key = some (match cidx r.Charges key with | some i => (r.Charges.getD i noCharge, true) | none => (noCharge, false)) := by
  have k1 := lp_find0 (l := r.Charges) (step := trace_charged_L1_step r key) (fun y => decide (y.Key = key)) (fun k => (k : Int)) (fun k y hy hk => by
    unfold trace_charged_L1_step
    refine ite_t (by omega) (bind_i hy ?_)
    by_cases hb : y.Key = key
    · rw [decide_eq_true hb]; exact ite_t hb rfl
    · rw [decide_eq_false hb]; exact ite_f hb (guard_i (inR_i64.2 (by omega)) rfl)) (by unfold trace_charged_L1_step; exact ite_f (by omega) rfl)
  unfold trace_charged cidx
  rw [k1]
  cases hi : fidx (fun y : Tapi_Charge => decide (y.Key = key)) r.Charges 0 with
  | none => rfl
  | some i =>
    obtain ⟨-, y, hy, -⟩ := fidx_some hi
    rw [Nat.sub_zero] at hy
    refine bind_i rfl (ite_f (by omega) (guard_i (by omega) (bind_i (by rw [Int.toNat_natCast]; exact hy) ?_)))
    simp [hy]
theorem rcharge_eq (l : List Tapi_Charge) (key : List UInt8) (hl : l.length ≤ 120) : tollwayref52_charge l key = some (match cidx l key with | some i => (i : Int) | none => -1) := by
  have k1 := lp_find0 (l := l) (step := tollwayref52_charge_L1_step l key) (fun y => decide (y.Key = key)) (fun k => (k : Int)) (fun k y hy hk => by
    unfold tollwayref52_charge_L1_step
    refine ite_t (by omega) (bind_i hy ?_)
    by_cases hb : y.Key = key
    · rw [decide_eq_true hb]; exact ite_t hb rfl
    · rw [decide_eq_false hb]; exact ite_f hb (guard_i (inR_i64.2 (by omega)) rfl)) (by unfold tollwayref52_charge_L1_step; exact ite_f (by omega) rfl)
  unfold tollwayref52_charge cidx
  rw [k1]
  cases fidx (fun y : Tapi_Charge => decide (y.Key = key)) l 0 <;> rfl
theorem passed_eq (r : Tapi_Result) (id : List UInt8) (hl : r.Passages.length ≤ 120) : trace_passed r id = some (match pidx r.Passages id with | some i => (r.Passages.getD i noPassage, true) | none => (noPassage, false)) := by
  have k1 := lp_find0 (l := r.Passages) (step := trace_passed_L1_step r id) (fun y => decide (y.ID = id)) (fun k => (k : Int)) (fun k y hy hk => by
    unfold trace_passed_L1_step
    refine ite_t (by omega) (bind_i hy ?_)
    by_cases hb : y.ID = id
    · rw [decide_eq_true hb]; exact ite_t hb rfl
    · rw [decide_eq_false hb]; exact ite_f hb (guard_i (inR_i64.2 (by omega)) rfl)) (by unfold trace_passed_L1_step; exact ite_f (by omega) rfl)
  unfold trace_passed pidx
  rw [k1]
  cases hi : fidx (fun y : Tapi_Passage => decide (y.ID = id)) r.Passages 0 with
  | none => rfl
  | some i =>
    obtain ⟨-, y, hy, -⟩ := fidx_some hi
    rw [Nat.sub_zero] at hy
    refine bind_i rfl (ite_f (by omega) (guard_i (by omega) (bind_i (by rw [Int.toNat_natCast]; exact hy) ?_)))
    simp [hy]
theorem rpassage_eq (l : List Tapi_Passage) (id : List UInt8) (hl : l.length ≤ 120) : tollwayref52_passage l id = some (match pidx l id with | some i => (i : Int) | none => -1) := by
  have k1 := lp_find0 (l := l) (step := tollwayref52_passage_L1_step l id) (fun y => decide (y.ID = id)) (fun k => (k : Int)) (fun k y hy hk => by
    unfold tollwayref52_passage_L1_step
    refine ite_t (by omega) (bind_i hy ?_)
    by_cases hb : y.ID = id
    · rw [decide_eq_true hb]; exact ite_t hb rfl
    · rw [decide_eq_false hb]; exact ite_f hb (guard_i (inR_i64.2 (by omega)) rfl)) (by unfold tollwayref52_passage_L1_step; exact ite_f (by omega) rfl)
  unfold tollwayref52_passage pidx
  rw [k1]
  cases fidx (fun y : Tapi_Passage => decide (y.ID = id)) l 0 <;> rfl
end Go.Proofs.YtalobodhbbkgdabDoor.Av
