/- The order of states; what a valid list says of a transponder at a time. -/
import Derived.Test.YtalobodhbbkgdaaDoorPT3
set_option linter.unusedVariables false
set_option linter.unusedSimpArgs false
set_option maxHeartbeats 1000000
namespace Go.Proofs.YtalobodhbbkgdaaDoor.Av
open Go Go.Proofs
theorem cb_refl (a : List UInt8) : Go.Lib.compareBytes a a = 0 := by
  rcases cb_all a a with ⟨h, _⟩ | ⟨_, h, _⟩ | ⟨_, h, _⟩
  · exact h
  · exact absurd rfl h
  · exact absurd rfl h
theorem cb_trans (a : List UInt8) : ∀ (b c : List UInt8), Go.Lib.compareBytes a b = -1 → Go.Lib.compareBytes b c = -1 → Go.Lib.compareBytes a c = -1 := by
  induction a with
  | nil =>
    intro b c h1 h2
    cases c with
    | nil =>
      cases b with
      | nil => simp [Go.Lib.compareBytes] at h1
      | cons d b => simp [Go.Lib.compareBytes] at h2
    | cons e c => rfl
  | cons x a ih =>
    intro b c h1 h2
    cases b with
    | nil => simp [Go.Lib.compareBytes] at h1
    | cons y b =>
      cases c with
      | nil => simp [Go.Lib.compareBytes] at h2
      | cons z c =>
        rw [Go.Lib.compareBytes] at h1 h2 ⊢
        simp only [UInt8.lt_iff_toNat_lt] at h1 h2 ⊢
        by_cases p1 : x.toNat < y.toNat
        · by_cases q1 : y.toNat < z.toNat
          · rw [if_pos (by omega)]
          · rw [if_neg q1] at h2
            by_cases q2 : z.toNat < y.toNat
            · rw [if_pos q2] at h2; cases h2
            · rw [if_pos (by omega)]
        · rw [if_neg p1] at h1
          by_cases p2 : y.toNat < x.toNat
          · rw [if_pos p2] at h1; cases h1
          · rw [if_neg p2] at h1
            by_cases q1 : y.toNat < z.toNat
            · rw [if_pos (by omega)]
            · rw [if_neg q1] at h2
              by_cases q2 : z.toNat < y.toNat
              · rw [if_pos q2] at h2; cases h2
              · rw [if_neg q2] at h2
                rw [if_neg (by omega), if_neg (by omega)]
                exact ih b c h1 h2
theorem lt_iff {a b : Tapi_TagState} : cmpT a b < 0 ↔ Go.Lib.compareBytes a.Tag b.Tag = -1 ∨ (a.Tag = b.Tag ∧ a.From < b.From) := by
  unfold cmpT
  rcases cb_all a.Tag b.Tag with ⟨h, e⟩ | ⟨h, e, _⟩ | ⟨h, e, _⟩
  · rw [if_pos h]
    by_cases h1 : a.From < b.From
    · rw [if_pos h1]; exact ⟨fun _ => .inr ⟨e, h1⟩, fun _ => by decide⟩
    · rw [if_neg h1]
      refine ⟨fun g => ?_, fun g => ?_⟩
      · split at g <;> omega
      · rcases g with g | ⟨_, g⟩ <;> omega
  · rw [h, if_neg (by decide)]; exact ⟨fun _ => .inl rfl, fun _ => by decide⟩
  · rw [h, if_neg (by decide)]
    refine ⟨fun g => by omega, fun g => ?_⟩
    rcases g with g | ⟨g, _⟩
    · omega
    · exact absurd g e
theorem lt_trans' {a b c : Tapi_TagState} (h1 : cmpT a b < 0) (h2 : cmpT b c < 0) : cmpT a c < 0 := by
  rw [lt_iff] at *
  rcases h1 with h1 | ⟨e1, h1⟩
  · rcases h2 with h2 | ⟨e2, h2⟩
    · exact .inl (cb_trans _ _ _ h1 h2)
    · rw [← e2]; exact .inl h1
  · rcases h2 with h2 | ⟨e2, h2⟩
    · rw [e1]; exact .inl h2
    · exact .inr ⟨e1.trans e2, by omega⟩
theorem ok_lt {l : List Tapi_TagState} (h : okL l) : ∀ (k j : Nat) (x y : Tapi_TagState), j < k → l[j]? = some x → l[k]? = some y → cmpT x y < 0
  | 0, j, x, y, hj, _, _ => by omega
  | k + 1, j, x, y, hj, hx, hy => by
    have hk := (List.getElem?_eq_some_iff.1 hy).1
    obtain ⟨p, hp⟩ : ∃ p, l[k]? = some p := ⟨_, List.getElem?_eq_getElem (by omega)⟩
    have h1 := (h (k + 1) y hy).2.2.2 p (by omega) hp
    rcases Nat.lt_or_ge j k with h2 | h2
    · exact lt_trans' (ok_lt h k j x p h2 hx hp) h1
    · have : j = k := by omega
      subst this
      rw [hx] at hp; obtain rfl := Option.some.inj hp
      exact h1
/-- what lies between two states of one transponder is of that transponder -/
theorem ok_mid {l : List Tapi_TagState} (h : okL l) {j k m : Nat} {x y z : Tapi_TagState} (hj : j < k) (hk : k < m) (hx : l[j]? = some x) (hy : l[k]? = some y) (hz : l[m]? = some z) (e : x.Tag = z.Tag) : y.Tag = x.Tag := by
  have h1 := lt_iff.1 (ok_lt h k j x y hj hx hy)
  have h2 := lt_iff.1 (ok_lt h m k y z hk hy hz)
  rcases h1 with h1 | ⟨e1, _⟩
  · exfalso
    rcases h2 with h2 | ⟨e2, _⟩
    · have := cb_trans _ _ _ h1 h2
      rw [e, cb_refl] at this; cases this
    · rw [e2, ← e, cb_refl] at h1; cases h1
  · exact e1.symm
theorem ok_from {l : List Tapi_TagState} (h : okL l) {j k : Nat} {x y : Tapi_TagState} (hj : j < k) (hx : l[j]? = some x) (hy : l[k]? = some y) (e : x.Tag = y.Tag) : x.From < y.From := by
  rcases lt_iff.1 (ok_lt h k j x y hj hx hy) with h1 | ⟨_, h1⟩
  · rw [e, cb_refl] at h1; cases h1
  · exact h1
theorem stt_none {l : List Tapi_TagState} {s : List UInt8} {t : Int} (h : ∀ (j : Nat) z, l[j]? = some z → ¬ (z.Tag = s ∧ z.From ≤ t)) : stt l s t = 1 := by
  have key : ∀ m, m ≤ l.length → stt (l.take m) s t = 1 := fun m => by
    induction m with
    | zero => intro _; rfl
    | succ m ih =>
      intro hm
      rw [stt_take l s t m _ (List.getElem?_eq_getElem hm), if_neg (h m _ (List.getElem?_eq_getElem hm))]
      exact ih (by omega)
  have := key l.length (Nat.le_refl _)
  rwa [List.take_length] at this
theorem stt_last {l : List Tapi_TagState} {s : List UInt8} {t : Int} {k : Nat} {y : Tapi_TagState} (hy : l[k]? = some y) (h1 : y.Tag = s) (h2 : y.From ≤ t) (h : ∀ (j : Nat) z, k < j → l[j]? = some z → ¬ (z.Tag = s ∧ z.From ≤ t)) : stt l s t = y.State := by
  have hk := (List.getElem?_eq_some_iff.1 hy).1
  have key : ∀ m, k + 1 + m ≤ l.length → stt (l.take (k + 1 + m)) s t = y.State := fun m => by
    induction m with
    | zero => intro _; rw [Nat.add_zero, stt_take l s t k y hy, if_pos ⟨h1, h2⟩]
    | succ m ih =>
      intro hm
      rw [show k + 1 + (m + 1) = k + 1 + m + 1 by omega, stt_take l s t (k + 1 + m) _ (List.getElem?_eq_getElem (by omega)), if_neg (h (k + 1 + m) _ (by omega) (List.getElem?_eq_getElem (by omega)))]
      exact ih (by omega)
  have := key (l.length - (k + 1)) (by omega)
  rwa [show k + 1 + (l.length - (k + 1)) = l.length by omega, List.take_length] at this
/-- from its time on, up to that of the next one, the state is that of the element -/
theorem hist_on {l : List Tapi_TagState} (h : okL l) {i : Nat} {x : Tapi_TagState} (hx : l[i]? = some x) {t : Int} (h1 : x.From ≤ t) (h2 : ∀ y, l[i + 1]? = some y → y.Tag = x.Tag → t < y.From) : stt l x.Tag t = x.State := by
  refine stt_last hx rfl h1 fun j z hj hz hc => ?_
  have hj' := (List.getElem?_eq_some_iff.1 hz).1
  obtain ⟨y, hy⟩ : ∃ y, l[i + 1]? = some y := ⟨_, List.getElem?_eq_getElem (by omega)⟩
  rcases Nat.lt_or_ge (i + 1) j with g | g
  · have e := ok_mid h (by omega) g hx hy hz hc.1.symm
    have := h2 y hy e
    have := ok_from h g hy hz (e.trans hc.1.symm)
    omega
  · have : j = i + 1 := by omega
    subst this
    rw [hz] at hy; obtain rfl := Option.some.inj hy
    have := h2 z hz hc.1
    omega
theorem hist_prev {l : List Tapi_TagState} (h : okL l) {i : Nat} {x p : Tapi_TagState} (h0 : 0 < i) (hx : l[i]? = some x) (hp : l[i - 1]? = some p) (e : p.Tag = x.Tag) : stt l x.Tag (x.From - 1) = p.State := by
  have := ok_from h (by omega) hp hx e
  rw [← e]
  refine hist_on h hp (by omega) fun y hy _ => ?_
  rw [show i - 1 + 1 = i by omega, hx] at hy
  obtain rfl := Option.some.inj hy
  omega
theorem hist_none {l : List Tapi_TagState} (h : okL l) {i : Nat} {x : Tapi_TagState} (hx : l[i]? = some x) (hp : ∀ p, 0 < i → l[i - 1]? = some p → p.Tag ≠ x.Tag) : stt l x.Tag (x.From - 1) = 1 := by
  refine stt_none fun j z hz hc => ?_
  have hi := (List.getElem?_eq_some_iff.1 hx).1
  rcases Nat.lt_or_ge j i with g | g
  · obtain ⟨p, hp'⟩ : ∃ y, l[i - 1]? = some y := ⟨_, List.getElem?_eq_getElem (by omega)⟩
    rcases Nat.lt_or_ge j (i - 1) with g' | g'
    · have := ok_mid h g' (by omega) hz hp' hx hc.1
      exact hp p (by omega) hp' (this.trans hc.1)
    · have : j = i - 1 := by omega
      subst this
      exact hp z (by omega) hz hc.1
  · rcases Nat.lt_or_ge i j with g' | g'
    · have := ok_from h g' hx hz hc.1.symm
      omega
    · have : i = j := by omega
      subst this
      rw [hx] at hz; obtain rfl := Option.some.inj hz
      omega
end Go.Proofs.YtalobodhbbkgdaaDoor.Av
