/- store.Save and the reference's Save write the same bytes; what `great` lets through. -/
import Derived.Test.YteljonodbkkckaaP49A
import Derived.Test.YteljonodbkkckaaR49
set_option linter.unusedVariables false
set_option maxHeartbeats 4000000
namespace Go.Proofs.Yteljonodbkkckaa.Av
open Go Go.Proofs
theorem puts_lp {α σ σ' ρ ρ' : Type} (l : List α) (m : Nat) (mk : List UInt8 → Nat → σ) (mk' : List UInt8 → Nat → σ') {f : σ → Option (σ ⊕ ρ)} {g : σ' → Option (σ' ⊕ ρ')} (out : List UInt8 → ρ) (out' : List UInt8 → ρ')
    (hs : ∀ k x, l[k]? = some x → ∃ w : List UInt8, w.length ≤ m ∧ ∀ b : List UInt8, b.length + m ≤ 4294967296 → f (mk b k) = some (.inl (mk (b ++ w) (k + 1))) ∧ g (mk' b k) = some (.inl (mk' (b ++ w) (k + 1))))
    (hf : ∀ b, f (mk b l.length) = some (.inr (out b))) (hg : ∀ b, g (mk' b l.length) = some (.inr (out' b))) :
    ∃ w : List UInt8, w.length ≤ m * l.length ∧ ∀ b : List UInt8, b.length + m * l.length ≤ 4294967296 → lp f (mk b 0) = some (out (b ++ w)) ∧ lp g (mk' b 0) = some (out' (b ++ w)) := by
  have key : ∀ (n k : Nat), k + n = l.length → ∃ w : List UInt8, w.length ≤ m * n ∧ ∀ b : List UInt8, b.length + m * n ≤ 4294967296 → lp f (mk b k) = some (out (b ++ w)) ∧ lp g (mk' b k) = some (out' (b ++ w)) := fun n => by
    induction n with
    | zero =>
      intro k hk
      have hk : k = l.length := by omega
      subst hk
      exact ⟨[], Nat.zero_le _, fun b _ => by rw [List.append_nil]; exact ⟨lp_end (hf b), lp_end (hg b)⟩⟩
    | succ n ih =>
      intro k hk
      obtain ⟨w, hw, hb⟩ := hs k l[k] (List.getElem?_eq_getElem (by omega))
      obtain ⟨w2, hw2, hb2⟩ := ih (k + 1) (by omega)
      have e : m * (n + 1) = m * n + m := Nat.mul_succ m n
      refine ⟨w ++ w2, by rw [List.length_append]; omega, fun b hl => ?_⟩
      obtain ⟨h1, h2⟩ := hb b (by omega)
      obtain ⟨h3, h4⟩ := hb2 (b ++ w) (by rw [List.length_append]; omega)
      rw [lp_go h1, lp_go h2, h3, h4, List.append_assoc]
      exact ⟨rfl, rfl⟩
  exact key l.length 0 (by omega)
theorem ints_puts (l : List Int) (hl : l.length ≤ 100) (h : ∀ x ∈ l, InR .i64 x) : Puts (10 * l.length) (fun b => store_putInts b l) (fun b => tollwayref49_ints b l) := by
  obtain ⟨w, hw, hb⟩ := puts_lp l 10 (fun b k => (b, k)) (fun b k => (b, k)) (f := store_putInts_L1_step l) (g := tollwayref49_ints_L1_step l) (fun b => b) (fun b => b) (fun k x hx => by
      have hk := get_lt hx
      obtain ⟨w, hw, hb⟩ := putInt_puts x (inR_i64.1 (h x (List.mem_of_getElem? hx)))
      refine ⟨w, hw, fun b hl => ⟨?_, ?_⟩⟩
      · unfold store_putInts_L1_step
        exact ite_t (by omega) (bind_i hx (bind_i (hb b hl).1 (guard_i (inR_i64.2 (by omega)) rfl)))
      · unfold tollwayref49_ints_L1_step
        exact ite_t (by omega) (bind_i hx (bind_i (hb b hl).2 (guard_i (inR_i64.2 (by omega)) rfl)))) (fun b => by
      unfold store_putInts_L1_step
      exact ite_f (by omega) rfl) (fun b => by
      unfold tollwayref49_ints_L1_step
      exact ite_f (by omega) rfl)
  refine ⟨w, hw, fun b hl => ⟨?_, ?_⟩⟩
  · show store_putInts b l = _
    unfold store_putInts
    exact bind_i (hb b hl).1 rfl
  · show tollwayref49_ints b l = _
    unfold tollwayref49_ints
    exact bind_i (hb b hl).2 rfl
theorem texts_puts (l : List (List UInt8)) (hl : l.length ≤ 100) (h : ∀ x ∈ l, x.length ≤ 20000) : Puts (20010 * l.length) (fun b => store_putTexts b l) (fun b => tollwayref49_texts b l) := by
  obtain ⟨w, hw, hb⟩ := puts_lp l 20010 (fun b k => (b, k)) (fun b k => (b, k)) (f := store_putTexts_L1_step l) (g := tollwayref49_texts_L1_step l) (fun b => b) (fun b => b) (fun k x hx => by
      have hk := get_lt hx
      have hlen := h x (List.mem_of_getElem? hx)
      obtain ⟨w, hw, hb⟩ := (putText_puts x (by omega)).mono (show x.length + 10 ≤ 20010 by omega)
      refine ⟨w, hw, fun b hl => ⟨?_, ?_⟩⟩
      · unfold store_putTexts_L1_step
        exact ite_t (by omega) (bind_i hx (bind_i (hb b hl).1 (guard_i (inR_i64.2 (by omega)) rfl)))
      · unfold tollwayref49_texts_L1_step
        exact ite_t (by omega) (bind_i hx (bind_i (hb b hl).2 (guard_i (inR_i64.2 (by omega)) rfl)))) (fun b => by
      unfold store_putTexts_L1_step
      exact ite_f (by omega) rfl) (fun b => by
      unfold tollwayref49_texts_L1_step
      exact ite_f (by omega) rfl)
  refine ⟨w, hw, fun b hl => ⟨?_, ?_⟩⟩
  · show store_putTexts b l = _
    unfold store_putTexts
    exact bind_i (hb b hl).1 rfl
  · show tollwayref49_texts b l = _
    unfold tollwayref49_texts
    exact bind_i (hb b hl).2 rfl
/-! ### a detection -/
def Dshort (d : Tapi_Detection) : Prop := d.Device.length ≤ 20000 ∧ d.Tag.length ≤ 20000 ∧ d.Plate.length ≤ 20000
theorem det_texts1 (l : List (List UInt8)) (hn : l.length = 1) (h : ∀ x ∈ l, x.length ≤ 20000) : ∃ w : List UInt8, w.length ≤ 20010 * l.length ∧ ∀ b : List UInt8, b.length + 20010 * l.length ≤ 4294967296 →
    lp store_putDetection_L1_step (b, (0 : Nat), l) = some (b ++ w, l) ∧ lp tollwayref49_detection_L1_step (b, (0 : Nat), l) = some (b ++ w, l) := by
  refine puts_lp l 20010 (fun b k => (b, k, l)) (fun b k => (b, k, l)) (f := store_putDetection_L1_step) (g := tollwayref49_detection_L1_step) (fun b => (b, l)) (fun b => (b, l)) (fun k x hx => by
      have hk := get_lt hx
      have hlen := h x (List.mem_of_getElem? hx)
      obtain ⟨w, hw, hb⟩ := (putText_puts x (by omega)).mono (show x.length + 10 ≤ 20010 by omega)
      refine ⟨w, hw, fun b hl => ⟨?_, ?_⟩⟩
      · unfold store_putDetection_L1_step
        exact ite_t (by omega) (bind_i hx (bind_i (hb b hl).1 (guard_i (inR_i64.2 (by omega)) rfl)))
      · unfold tollwayref49_detection_L1_step
        exact ite_t (by omega) (bind_i hx (bind_i (hb b hl).2 (guard_i (inR_i64.2 (by omega)) rfl)))) (fun b => by
      unfold store_putDetection_L1_step
      exact ite_f (by omega) rfl) (fun b => by
      unfold tollwayref49_detection_L1_step
      exact ite_f (by omega) rfl)
theorem det_texts2 (l : List (List UInt8)) (hn : l.length = 2) (h : ∀ x ∈ l, x.length ≤ 20000) : ∃ w : List UInt8, w.length ≤ 20010 * l.length ∧ ∀ b : List UInt8, b.length + 20010 * l.length ≤ 4294967296 →
    lp store_putDetection_L23_step (b, (0 : Nat), l) = some (b ++ w, l) ∧ lp tollwayref49_detection_L23_step (b, (0 : Nat), l) = some (b ++ w, l) := by
  refine puts_lp l 20010 (fun b k => (b, k, l)) (fun b k => (b, k, l)) (f := store_putDetection_L23_step) (g := tollwayref49_detection_L23_step) (fun b => (b, l)) (fun b => (b, l)) (fun k x hx => by
      have hk := get_lt hx
      have hlen := h x (List.mem_of_getElem? hx)
      obtain ⟨w, hw, hb⟩ := (putText_puts x (by omega)).mono (show x.length + 10 ≤ 20010 by omega)
      refine ⟨w, hw, fun b hl => ⟨?_, ?_⟩⟩
      · unfold store_putDetection_L23_step
        exact ite_t (by omega) (bind_i hx (bind_i (hb b hl).1 (guard_i (inR_i64.2 (by omega)) rfl)))
      · unfold tollwayref49_detection_L23_step
        exact ite_t (by omega) (bind_i hx (bind_i (hb b hl).2 (guard_i (inR_i64.2 (by omega)) rfl)))) (fun b => by
      unfold store_putDetection_L23_step
      exact ite_f (by omega) rfl) (fun b => by
      unfold tollwayref49_detection_L23_step
      exact ite_f (by omega) rfl)
theorem det_puts (d : Tapi_Detection) (hw : Tapi_Detection.wf d) (h : Dshort d) : Puts 70000 (fun b => store_putDetection b d) (fun b => tollwayref49_detection b d) := by
  obtain ⟨_, i1, i2, _, _, i3, i4⟩ := hw
  obtain ⟨s1, s2, s3⟩ := h
  obtain ⟨w1, l1, b1⟩ := det_texts1 [d.Device] rfl (by simpa using s1)
  obtain ⟨w2, l2, b2⟩ := ints_puts [d.Seq, d.Time] (by simp) (by simp [i1, i2])
  obtain ⟨w3, l3, b3⟩ := det_texts2 [d.Tag, d.Plate] rfl (by simp [s2, s3])
  obtain ⟨w4, l4, b4⟩ := ints_puts [d.Axles, d.Score] (by simp) (by simp [i3, i4])
  simp only [List.length_cons, List.length_nil] at l1 l2 l3 l4 b1 b2 b3 b4
  refine ⟨w1 ++ w2 ++ w3 ++ w4, by simp only [List.length_append]; omega, fun b hl => ⟨?_, ?_⟩⟩
  · show store_putDetection b d = _
    unfold store_putDetection
    exact bind_i (b1 b (by omega)).1 (bind_i (b2 _ (by simp only [List.length_append]; omega)).1 (bind_i (b3 _ (by simp only [List.length_append]; omega)).1 (bind_i (b4 _ (by simp only [List.length_append]; omega)).1 (by simp only [List.append_assoc]))))
  · show tollwayref49_detection b d = _
    unfold tollwayref49_detection
    exact bind_i (b1 b (by omega)).2 (bind_i (b2 _ (by simp only [List.length_append]; omega)).2 (bind_i (b3 _ (by simp only [List.length_append]; omega)).2 (bind_i (b4 _ (by simp only [List.length_append]; omega)).2 (by simp only [List.append_assoc]))))
/-- a frame about what two writers write from nothing -/
theorem frame_pay (k : Int) (hk : 0 ≤ k ∧ k ≤ 255) {m : Nat} {F G : List UInt8 → Option (List UInt8)} (h : Puts m F G) (hm : m ≤ 4000000000) :
    ∃ p : List UInt8, F [] = some p ∧ G [] = some p ∧ Puts (m + 20) (fun b => codec_PutFrame b k p) (fun b => tollwayref02_PutFrame b k p) := by
  obtain ⟨p, hp, h1, h2⟩ := h.at_nil (by omega)
  exact ⟨p, h1, h2, (putFrame_puts k p hk (by omega)).mono (by omega)⟩
/-! ### what great lets through -/
structure Small (s : Tapi_State) : Prop where
  nSeen : s.Seen.length ≤ 60
  nRejects : s.Rejects.length ≤ 60
  nParked : s.Parked.length ≤ 60
  nEntries : s.Books.Ledger.Entries.length ≤ 60
  nDone : s.Books.Done.length ≤ 60
  nCases : s.Cases.length ≤ 60
  seen : ∀ x ∈ s.Seen, Dshort x.D
  rejects : ∀ x ∈ s.Rejects, Dshort x.D
  parked : ∀ x ∈ s.Parked, x.Zone.length ≤ 20000 ∧ x.Plate.length ≤ 20000
  entries : ∀ x ∈ s.Books.Ledger.Entries, x.Key.length ≤ 20000 ∧ x.Posts.length ≤ 30 ∧ ∀ y ∈ x.Posts, y.Account.length ≤ 20000
  done : ∀ x ∈ s.Books.Done, x.Key.length ≤ 20000 ∧ x.Vehicle.length ≤ 20000 ∧ x.System.length ≤ 20000 ∧ x.Lines.length ≤ 30 ∧ ∀ y ∈ x.Lines, y.Text.length ≤ 20000
  cases : ∀ x ∈ s.Cases, x.ID.length ≤ 20000 ∧ x.Plate.length ≤ 20000 ∧ x.Key.length ≤ 20000
/-! ### the parts of the saved bytes -/
theorem seen_puts (s : Tapi_State) (hw : Tapi_State.wf s) (h : Small s) : ∃ w : List UInt8, w.length ≤ 5000000 ∧ ∀ b : List UInt8, b.length + 5000000 ≤ 4294967296 →
    lp (store_Save_L5_step s) ((0 : Nat), b) = some (b ++ w) ∧ lp (tollwayref49_Save_L5_step s) ((0 : Nat), b) = some (b ++ w) := by
  obtain ⟨w, hw2, hb⟩ := puts_lp s.Seen 70020 (fun b k => (k, b)) (fun b k => (k, b)) (f := store_Save_L5_step s) (g := tollwayref49_Save_L5_step s) (fun b => b) (fun b => b) (fun k x hx => by
      have hk := get_lt hx
      have hm := List.mem_of_getElem? hx
      have hn := h.nSeen
      obtain ⟨p, e1, e2, w, hw, hb⟩ := frame_pay 2 (by decide) (det_puts x.D ((hw.2.1.2 x hm).1) (h.seen x hm)) (by decide)
      refine ⟨w, hw, fun b hl => ⟨?_, ?_⟩⟩
      · unfold store_Save_L5_step
        exact ite_t (by omega) (bind_i hx (bind_i e1 (bind_i (hb b hl).1 (guard_i (inR_i64.2 (by omega)) rfl))))
      · unfold tollwayref49_Save_L5_step
        exact ite_t (by omega) (bind_i hx (bind_i e2 (bind_i (hb b hl).2 (guard_i (inR_i64.2 (by omega)) rfl))))) (fun b => by
      unfold store_Save_L5_step
      exact ite_f (by omega) rfl) (fun b => by
      unfold tollwayref49_Save_L5_step
      exact ite_f (by omega) rfl)
  have hn := h.nSeen
  exact ⟨w, by omega, fun b hl => hb b (by omega)⟩
theorem Puts.then {m n : Nat} {F G F' G' : List UInt8 → Option (List UInt8)} (h : Puts m F G) (h' : Puts n F' G') : Puts (m + n) (fun b => (F b).bind F') (fun b => (G b).bind G') := by
  obtain ⟨w, hw, hb⟩ := h
  obtain ⟨w', hw', hb'⟩ := h'
  refine ⟨w ++ w', by simp only [List.length_append]; omega, fun b hl => ?_⟩
  obtain ⟨h1, h2⟩ := hb b (by omega)
  obtain ⟨h3, h4⟩ := hb' (b ++ w) (by simp only [List.length_append]; omega)
  rw [← List.append_assoc]
  exact ⟨bind_i h1 h3, bind_i h2 h4⟩
theorem rej_puts (s : Tapi_State) (hw : Tapi_State.wf s) (h : Small s) : ∃ w : List UInt8, w.length ≤ 5000000 ∧ ∀ b : List UInt8, b.length + 5000000 ≤ 4294967296 →
    lp (store_Save_L22_step s) ((0 : Nat), b) = some (b ++ w) ∧ lp (tollwayref49_Save_L22_step s) ((0 : Nat), b) = some (b ++ w) := by
  obtain ⟨w, hw2, hb⟩ := puts_lp s.Rejects 70030 (fun b k => (k, b)) (fun b k => (k, b)) (f := store_Save_L22_step s) (g := tollwayref49_Save_L22_step s) (fun b => b) (fun b => b) (fun k x hx => by
      have hk := get_lt hx
      have hm := List.mem_of_getElem? hx
      have hn := h.nRejects
      have hwx := hw.2.2.1.2 x hm
      obtain ⟨q, ql, d1, d2⟩ := (det_puts x.D hwx.1 (h.rejects x hm)).at_nil (by decide)
      obtain ⟨v, vl, vb⟩ := ints_puts [x.Why] (by simp) (by simpa using hwx.2)
      simp only [List.length_cons, List.length_nil] at vl vb
      obtain ⟨w, hw, hb⟩ := (putFrame_puts 3 (q ++ v) (by decide) (by simp only [List.length_append]; omega)).mono (show (q ++ v).length + 20 ≤ 70030 by simp only [List.length_append]; omega)
      refine ⟨w, hw, fun b hl => ⟨?_, ?_⟩⟩
      · unfold store_Save_L22_step
        exact ite_t (by omega) (bind_i hx (bind_i d1 (bind_i (vb q (by omega)).1 (bind_i (hb b hl).1 (guard_i (inR_i64.2 (by omega)) rfl)))))
      · unfold tollwayref49_Save_L22_step
        exact ite_t (by omega) (bind_i hx (bind_i d2 (bind_i (vb q (by omega)).2 (bind_i (hb b hl).2 (guard_i (inR_i64.2 (by omega)) rfl)))))) (fun b => by
      unfold store_Save_L22_step
      exact ite_f (by omega) rfl) (fun b => by
      unfold tollwayref49_Save_L22_step
      exact ite_f (by omega) rfl)
  have hn := h.nRejects
  exact ⟨w, by omega, fun b hl => hb b (by omega)⟩
theorem park_puts (s : Tapi_State) (hw : Tapi_State.wf s) (h : Small s) : ∃ w : List UInt8, w.length ≤ 5000000 ∧ ∀ b : List UInt8, b.length + 5000000 ≤ 4294967296 →
    lp (store_Save_L43_step s) ((0 : Nat), b) = some (b ++ w) ∧ lp (tollwayref49_Save_L43_step s) ((0 : Nat), b) = some (b ++ w) := by
  obtain ⟨w, hw2, hb⟩ := puts_lp s.Parked 70000 (fun b k => (k, b)) (fun b k => (k, b)) (f := store_Save_L43_step s) (g := tollwayref49_Save_L43_step s) (fun b => b) (fun b => b) (fun k x hx => by
      have hk := get_lt hx
      have hm := List.mem_of_getElem? hx
      have hn := h.nParked
      obtain ⟨i1, _, _, i2, i3⟩ := hw.2.2.2.1.2 x hm
      obtain ⟨s1, s2⟩ := h.parked x hm
      obtain ⟨q, ql, d1, d2⟩ := (ints_puts [x.Kind] (by simp) (by simpa using i1)).at_nil (by simp)
      obtain ⟨t, tl, tb⟩ := texts_puts [x.Zone, x.Plate] (by simp) (by simp [s1, s2])
      obtain ⟨v, vl, vb⟩ := ints_puts [x.Time, x.Until] (by simp) (by simp [i2, i3])
      simp only [List.length_cons, List.length_nil] at vl vb ql tl tb
      obtain ⟨w, hw, hb⟩ := (putFrame_puts 4 (q ++ t ++ v) (by decide) (by simp only [List.length_append]; omega)).mono (show (q ++ t ++ v).length + 20 ≤ 70000 by simp only [List.length_append]; omega)
      refine ⟨w, hw, fun b hl => ⟨?_, ?_⟩⟩
      · unfold store_Save_L43_step
        exact ite_t (by omega) (bind_i hx (bind_i d1 (bind_i (tb q (by omega)).1 (bind_i (vb _ (by simp only [List.length_append]; omega)).1 (bind_i (hb b hl).1 (guard_i (inR_i64.2 (by omega)) rfl))))))
      · unfold tollwayref49_Save_L43_step
        exact ite_t (by omega) (bind_i hx (bind_i d2 (bind_i (tb q (by omega)).2 (bind_i (vb _ (by simp only [List.length_append]; omega)).2 (bind_i (hb b hl).2 (guard_i (inR_i64.2 (by omega)) rfl))))))) (fun b => by
      unfold store_Save_L43_step
      exact ite_f (by omega) rfl) (fun b => by
      unfold tollwayref49_Save_L43_step
      exact ite_f (by omega) rfl)
  have hn := h.nParked
  exact ⟨w, by omega, fun b hl => hb b (by omega)⟩
theorem cases_puts (s : Tapi_State) (hw : Tapi_State.wf s) (h : Small s) : ∃ w : List UInt8, w.length ≤ 5000000 ∧ ∀ b : List UInt8, b.length + 5000000 ≤ 4294967296 →
    lp (store_Save_L70_step s) (b, (0 : Nat)) = some (b ++ w) ∧ lp (tollwayref49_Save_L102_step s) ((0 : Nat), b) = some (b ++ w) := by
  obtain ⟨w, hw2, hb⟩ := puts_lp s.Cases 70000 (fun b k => (b, k)) (fun b k => (k, b)) (f := store_Save_L70_step s) (g := tollwayref49_Save_L102_step s) (fun b => b) (fun b => b) (fun k x hx => by
      have hk := get_lt hx
      have hm := List.mem_of_getElem? hx
      have hn := h.nCases
      obtain ⟨_, _, _, i1, i2, i3, i4, i5, i6, i7, i8, i9⟩ := hw.2.2.2.2.2.2.2.1.2 x hm
      obtain ⟨s1, s2, s3⟩ := h.cases x hm
      obtain ⟨q, ql, d1, d2⟩ := (texts_puts [x.ID, x.Plate, x.Key] (by simp) (by simp [s1, s2, s3])).at_nil (by simp)
      obtain ⟨v, vl, vb⟩ := ints_puts [x.Begun, x.Since, x.Stage, x.Owed, x.Paid, x.Paused, x.Appeal.State, x.Appeal.Ground, x.Appeal.Day] (by simp) (by simp [i1, i2, i3, i4, i5, i6, i7, i8, i9])
      simp only [List.length_cons, List.length_nil] at vl vb ql
      obtain ⟨w, hw, hb⟩ := (putFrame_puts 7 (q ++ v) (by decide) (by simp only [List.length_append]; omega)).mono (show (q ++ v).length + 20 ≤ 70000 by simp only [List.length_append]; omega)
      refine ⟨w, hw, fun b hl => ⟨?_, ?_⟩⟩
      · unfold store_Save_L70_step
        exact ite_t (by omega) (bind_i hx (bind_i d1 (bind_i (vb _ (by omega)).1 (bind_i (hb b hl).1 (guard_i (inR_i64.2 (by omega)) rfl)))))
      · unfold tollwayref49_Save_L102_step
        exact ite_t (by omega) (bind_i hx (bind_i d2 (bind_i (vb _ (by omega)).2 (bind_i (hb b hl).2 (guard_i (inR_i64.2 (by omega)) rfl)))))) (fun b => by
      unfold store_Save_L70_step
      exact ite_f (by omega) rfl) (fun b => by
      unfold tollwayref49_Save_L102_step
      exact ite_f (by omega) rfl)
  have hn := h.nCases
  exact ⟨w, by omega, fun b hl => hb b (by omega)⟩
theorem posts_puts (bk : Tapi_Books) (v0 : List UInt8) (k0 : Nat) (e : Tapi_Entry) (hw : Tapi_Entry.wf e) (hn : e.Posts.length ≤ 30) (h : ∀ y ∈ e.Posts, y.Account.length ≤ 20000) :
    ∃ w : List UInt8, w.length ≤ 20020 * e.Posts.length ∧ ∀ b : List UInt8, b.length + 20020 * e.Posts.length ≤ 4294967296 →
    lp (store_putBooks_L36_step bk v0 k0 e) (b, (0 : Nat)) = some (b ++ w) ∧ lp (tollwayref49_entry_L5_step e) (b, (0 : Nat)) = some (b ++ w) := by
  refine puts_lp e.Posts 20020 (fun b k => (b, k)) (fun b k => (b, k)) (f := store_putBooks_L36_step bk v0 k0 e) (g := tollwayref49_entry_L5_step e) (fun b => b) (fun b => b) (fun k x hx => by
      have hk := get_lt hx
      have hm := List.mem_of_getElem? hx
      obtain ⟨_, i1⟩ := hw.2.2.2 x hm
      obtain ⟨q, ql, tb⟩ := texts_puts [x.Account] (by simp) (by simpa using h x hm)
      obtain ⟨v, vl, vb⟩ := ints_puts [x.Cents] (by simp) (by simpa using i1)
      simp only [List.length_cons, List.length_nil] at vl vb ql tb
      refine ⟨q ++ v, by simp only [List.length_append]; omega, fun b hl => ⟨?_, ?_⟩⟩
      · unfold store_putBooks_L36_step
        exact ite_t (by omega) (bind_i hx (bind_i (tb b (by omega)).1 (bind_i (vb _ (by simp only [List.length_append]; omega)).1 (guard_i (inR_i64.2 (by omega)) (by rw [List.append_assoc])))))
      · unfold tollwayref49_entry_L5_step
        exact ite_t (by omega) (bind_i hx (bind_i (tb b (by omega)).2 (bind_i (vb _ (by simp only [List.length_append]; omega)).2 (guard_i (inR_i64.2 (by omega)) (by rw [List.append_assoc])))))) (fun b => by
      unfold store_putBooks_L36_step
      exact ite_f (by omega) rfl) (fun b => by
      unfold tollwayref49_entry_L5_step
      exact ite_f (by omega) rfl)
theorem lines_puts (bk : Tapi_Books) (v0 : List UInt8) (k0 : Nat) (e : Tapi_Charge) (hw : Tapi_Charge.wf e) (hn : e.Lines.length ≤ 30) (h : ∀ y ∈ e.Lines, y.Text.length ≤ 20000) :
    ∃ w : List UInt8, w.length ≤ 20020 * e.Lines.length ∧ ∀ b : List UInt8, b.length + 20020 * e.Lines.length ≤ 4294967296 →
    lp (store_putBooks_L93_step bk v0 k0 e) (b, (0 : Nat)) = some (b ++ w) ∧ lp (tollwayref49_charge_L5_step e) (b, (0 : Nat)) = some (b ++ w) := by
  refine puts_lp e.Lines 20020 (fun b k => (b, k)) (fun b k => (b, k)) (f := store_putBooks_L93_step bk v0 k0 e) (g := tollwayref49_charge_L5_step e) (fun b => b) (fun b => b) (fun k x hx => by
      have hk := get_lt hx
      have hm := List.mem_of_getElem? hx
      obtain ⟨_, i1⟩ := hw.2.2.2.2.2.1.2 x hm
      obtain ⟨q, ql, tb⟩ := texts_puts [x.Text] (by simp) (by simpa using h x hm)
      obtain ⟨v, vl, vb⟩ := ints_puts [x.Cents] (by simp) (by simpa using i1)
      simp only [List.length_cons, List.length_nil] at vl vb ql tb
      refine ⟨q ++ v, by simp only [List.length_append]; omega, fun b hl => ⟨?_, ?_⟩⟩
      · unfold store_putBooks_L93_step
        exact ite_t (by omega) (bind_i hx (bind_i (tb b (by omega)).1 (bind_i (vb _ (by simp only [List.length_append]; omega)).1 (guard_i (inR_i64.2 (by omega)) (by rw [List.append_assoc])))))
      · unfold tollwayref49_charge_L5_step
        exact ite_t (by omega) (bind_i hx (bind_i (tb b (by omega)).2 (bind_i (vb _ (by simp only [List.length_append]; omega)).2 (guard_i (inR_i64.2 (by omega)) (by rw [List.append_assoc])))))) (fun b => by
      unfold store_putBooks_L93_step
      exact ite_f (by omega) rfl) (fun b => by
      unfold tollwayref49_charge_L5_step
      exact ite_f (by omega) rfl)
theorem entries_puts (s : Tapi_State) (hw : Tapi_State.wf s) (h : Small s) : ∃ w : List UInt8, w.length ≤ 50000000 ∧ ∀ b : List UInt8, b.length + 50000000 ≤ 4294967296 →
    lp (store_putBooks_L1_step s.Books) (b, (0 : Nat)) = some (b ++ w) ∧ lp (tollwayref49_Save_L68_step s) ((0 : Nat), b) = some (b ++ w) := by
  obtain ⟨w, hw2, hb⟩ := puts_lp s.Books.Ledger.Entries 700000 (fun b k => (b, k)) (fun b k => (k, b)) (f := store_putBooks_L1_step s.Books) (g := tollwayref49_Save_L68_step s) (fun b => b) (fun b => b) (fun k x hx => by
      have hk := get_lt hx
      have hm := List.mem_of_getElem? hx
      have hn := h.nEntries
      have hwx := hw.2.2.2.2.2.2.1.1.2 x hm
      obtain ⟨_, i1, _, _⟩ := hwx
      obtain ⟨s1, s2, s3⟩ := h.entries x hm
      obtain ⟨q, ql, d1, d2⟩ := (texts_puts [x.Key] (by simp) (by simpa using s1)).at_nil (by simp)
      obtain ⟨v, vl, vb⟩ := ints_puts [x.Time, (x.Posts.length : Int)] (by simp) (by
        simp only [List.mem_cons, List.not_mem_nil, or_false, forall_eq_or_imp, forall_eq]
        exact ⟨i1, inR_i64.2 (by omega)⟩)
      simp only [List.length_cons, List.length_nil] at vl vb ql
      obtain ⟨t, tl, tb⟩ := posts_puts s.Books [] 0 x (hw.2.2.2.2.2.2.1.1.2 x hm) s2 s3
      have hp : (q ++ v ++ t).length + 20 ≤ 700000 := by simp only [List.length_append]; omega
      obtain ⟨w, hw, hb⟩ := (putFrame_puts 5 (q ++ v ++ t) (by decide) (by omega)).mono hp
      have hv : (q ++ v).length + 20020 * x.Posts.length ≤ 4294967296 := by simp only [List.length_append]; omega
      refine ⟨w, hw, fun b hl => ⟨?_, ?_⟩⟩
      · unfold store_putBooks_L1_step
        exact ite_t (by omega) (bind_i hx (bind_i d1 (bind_i (vb _ (by omega)).1 (bind_i (tb _ hv).1 (bind_i (hb b hl).1 (guard_i (inR_i64.2 (by omega)) rfl))))))
      · have he : tollwayref49_entry x = some (q ++ v ++ t) := by
          unfold tollwayref49_entry
          exact bind_i d2 (bind_i (vb _ (by omega)).2 (bind_i (tb _ hv).2 rfl))
        unfold tollwayref49_Save_L68_step
        exact ite_t (by omega) (bind_i hx (bind_i he (bind_i (hb b hl).2 (guard_i (inR_i64.2 (by omega)) rfl))))) (fun b => by
      unfold store_putBooks_L1_step
      exact ite_f (by omega) rfl) (fun b => by
      unfold tollwayref49_Save_L68_step
      exact ite_f (by omega) rfl)
  have hn := h.nEntries
  exact ⟨w, by omega, fun b hl => hb b (by omega)⟩
theorem done_puts (s : Tapi_State) (hw : Tapi_State.wf s) (h : Small s) : ∃ w : List UInt8, w.length ≤ 50000000 ∧ ∀ b : List UInt8, b.length + 50000000 ≤ 4294967296 →
    lp (store_putBooks_L56_step s.Books) (b, (0 : Nat)) = some (b ++ w) ∧ lp (tollwayref49_Save_L85_step s) ((0 : Nat), b) = some (b ++ w) := by
  obtain ⟨w, hw2, hb⟩ := puts_lp s.Books.Done 700000 (fun b k => (b, k)) (fun b k => (k, b)) (f := store_putBooks_L56_step s.Books) (g := tollwayref49_Save_L85_step s) (fun b => b) (fun b => b) (fun k x hx => by
      have hk := get_lt hx
      have hm := List.mem_of_getElem? hx
      have hn := h.nDone
      have hwx := hw.2.2.2.2.2.2.1.2.2 x hm
      obtain ⟨_, _, _, i1, i2, _, i3⟩ := hwx
      obtain ⟨s1, s2, s3, s4, s5⟩ := h.done x hm
      obtain ⟨q, ql, d1, d2⟩ := (texts_puts [x.Key, x.Vehicle, x.System] (by simp) (by simp [s1, s2, s3])).at_nil (by simp)
      obtain ⟨v, vl, vb⟩ := ints_puts [x.Class, x.Time, (x.Lines.length : Int)] (by simp) (by
        simp only [List.mem_cons, List.not_mem_nil, or_false, forall_eq_or_imp, forall_eq]
        exact ⟨i1, i2, inR_i64.2 (by omega)⟩)
      obtain ⟨u, ul, ub⟩ := ints_puts [x.Cents] (by simp) (by simpa using i3)
      simp only [List.length_cons, List.length_nil] at vl vb ql ul ub
      obtain ⟨t, tl, tb⟩ := lines_puts s.Books [] 0 x (hw.2.2.2.2.2.2.1.2.2 x hm) s4 s5
      have hp : (q ++ v ++ t ++ u).length + 20 ≤ 700000 := by simp only [List.length_append]; omega
      obtain ⟨w, hw, hb⟩ := (putFrame_puts 6 (q ++ v ++ t ++ u) (by decide) (by omega)).mono hp
      have hv : (q ++ v).length + 20020 * x.Lines.length ≤ 4294967296 := by simp only [List.length_append]; omega
      have hu : (q ++ v ++ t).length + 10 ≤ 4294967296 := by simp only [List.length_append]; omega
      refine ⟨w, hw, fun b hl => ⟨?_, ?_⟩⟩
      · unfold store_putBooks_L56_step
        exact ite_t (by omega) (bind_i hx (bind_i d1 (bind_i (vb _ (by omega)).1 (bind_i (tb _ hv).1 (bind_i (ub _ hu).1 (bind_i (hb b hl).1 (guard_i (inR_i64.2 (by omega)) rfl)))))))
      · have he : tollwayref49_charge x = some (q ++ v ++ t ++ u) := by
          unfold tollwayref49_charge
          exact bind_i d2 (bind_i (vb _ (by omega)).2 (bind_i (tb _ hv).2 (bind_i (ub _ hu).2 rfl)))
        unfold tollwayref49_Save_L85_step
        exact ite_t (by omega) (bind_i hx (bind_i he (bind_i (hb b hl).2 (guard_i (inR_i64.2 (by omega)) rfl))))) (fun b => by
      unfold store_putBooks_L56_step
      exact ite_f (by omega) rfl) (fun b => by
      unfold tollwayref49_Save_L85_step
      exact ite_f (by omega) rfl)
  have hn := h.nDone
  exact ⟨w, by omega, fun b hl => hb b (by omega)⟩
theorem save_both (s : Tapi_State) (hw : Tapi_State.wf s) (h : Small s) : ∃ w : List UInt8, w.length ≤ 200000000 ∧ store_Save s = some w ∧ tollwayref49_Save s = some w := by
  have n1 := h.nSeen
  have n2 := h.nRejects
  have n3 := h.nParked
  have n4 := h.nEntries
  have n5 := h.nDone
  have n6 := h.nCases
  obtain ⟨q, ql, d1, d2⟩ := (ints_puts [1, s.Closed, s.Count, (s.Seen.length : Int), (s.Rejects.length : Int), (s.Parked.length : Int), (s.Books.Ledger.Entries.length : Int), (s.Books.Done.length : Int), (s.Cases.length : Int)] (by simp) (by
    simp only [List.mem_cons, List.not_mem_nil, or_false, forall_eq_or_imp, forall_eq]
    exact ⟨inR_i64.2 (by omega), hw.2.2.2.2.1, hw.2.2.2.2.2.2.2.2, inR_i64.2 (by omega), inR_i64.2 (by omega), inR_i64.2 (by omega), inR_i64.2 (by omega), inR_i64.2 (by omega), inR_i64.2 (by omega)⟩)).at_nil (by simp)
  simp only [List.length_cons, List.length_nil] at ql
  obtain ⟨w0, l0, e0, f0⟩ := (putFrame_puts 1 q (by decide) (by omega)).at_nil (by omega)
  obtain ⟨w1, l1, b1⟩ := seen_puts s hw h
  obtain ⟨w2, l2, b2⟩ := rej_puts s hw h
  obtain ⟨w3, l3, b3⟩ := park_puts s hw h
  obtain ⟨w4, l4, b4⟩ := entries_puts s hw h
  obtain ⟨w5, l5, b5⟩ := done_puts s hw h
  obtain ⟨w6, l6, b6⟩ := cases_puts s hw h
  refine ⟨w0 ++ w1 ++ w2 ++ w3 ++ w4 ++ w5 ++ w6, by simp only [List.length_append]; omega, ?_, ?_⟩
  · have hb : store_putBooks (w0 ++ w1 ++ w2 ++ w3) s.Books = some (w0 ++ w1 ++ w2 ++ w3 ++ w4 ++ w5) := by
      unfold store_putBooks
      exact bind_i (b4 _ (by simp only [List.length_append]; omega)).1 (bind_i (b5 _ (by simp only [List.length_append]; omega)).1 rfl)
    unfold store_Save
    exact bind_i d1 (bind_i e0 (bind_i (b1 _ (by omega)).1 (bind_i (b2 _ (by simp only [List.length_append]; omega)).1 (bind_i (b3 _ (by simp only [List.length_append]; omega)).1 (bind_i hb (bind_i (b6 _ (by simp only [List.length_append]; omega)).1 rfl))))))
  · unfold tollwayref49_Save
    exact bind_i d2 (bind_i f0 (bind_i (b1 _ (by omega)).2 (bind_i (b2 _ (by simp only [List.length_append]; omega)).2 (bind_i (b3 _ (by simp only [List.length_append]; omega)).2 (bind_i (b4 _ (by simp only [List.length_append]; omega)).2 (bind_i (b5 _ (by simp only [List.length_append]; omega)).2 (bind_i (b6 _ (by simp only [List.length_append]; omega)).2 rfl)))))))
end Go.Proofs.Yteljonodbkkckaa.Av
