/- StoreSaves' plain law. -/
import Derived.Test.YteljonodbkkckaaP49B
set_option linter.unusedVariables false
set_option maxHeartbeats 4000000
namespace Go.Proofs.Yteljonodbkkckaa.Av
open Go Go.Proofs
theorem cost_go {α σ ρ : Type} (l : List α) (good : α → Prop) (M : Nat) (B : Int) {f : σ → Option (σ ⊕ ρ)} (mk : Int → Nat → σ) (out : Int → ρ) (bad : Option ρ)
    (hs : ∀ k x a, l[k]? = some x → (0 : Int) ≤ a → a ≤ B → (∃ t, f (mk a k) = some (.inl (mk t (k + 1))) ∧ a ≤ t ∧ t ≤ a + M ∧ (t ≤ 20000 → good x)) ∨ ∃ b, bad = some b ∧ f (mk a k) = some (.inr b))
    (he : ∀ a, f (mk a l.length) = some (.inr (out a))) : ∀ (n k : Nat) (a : Int), k + n = l.length → 0 ≤ a → a + (M * n : Nat) ≤ B →
    (∃ b, bad = some b ∧ lp f (mk a k) = some b) ∨ ∃ t, lp f (mk a k) = some (out t) ∧ a ≤ t ∧ t ≤ a + (M * n : Nat) ∧ (t ≤ 20000 → ∀ j x, k ≤ j → l[j]? = some x → good x)
  | 0, k, a, hk, h0, h1 => by
    have hk : k = l.length := by omega
    subst hk
    refine .inr ⟨a, lp_end (he a), Int.le_refl _, by omega, fun _ j x hj hx => ?_⟩
    have := get_lt hx
    omega
  | n + 1, k, a, hk, h0, h1 => by
    have e : M * (n + 1) = M * n + M := Nat.mul_succ M n
    have hx := List.getElem?_eq_getElem (l := l) (i := k) (by omega)
    rcases hs k _ a hx h0 (by omega) with ⟨t, h2, h3, h4, h5⟩ | ⟨b, hb, h2⟩
    · rw [lp_go h2]
      rcases cost_go l good M B mk out bad hs he n (k + 1) t (by omega) (by omega) (by omega) with h6 | ⟨t2, h6, h7, h8, h9⟩
      · exact .inl h6
      · refine .inr ⟨t2, h6, by omega, by omega, fun hle j x hj hjx => ?_⟩
        by_cases hjk : j = k
        · subst hjk
          rw [hx] at hjx
          cases hjx
          exact h5 (by omega)
        · exact h9 hle j x (by omega) hjx
    · exact .inl ⟨b, hb, lp_end h2⟩
theorem cost_lp {α σ ρ : Type} (l : List α) (good : α → Prop) (M : Nat) (B : Int) {f : σ → Option (σ ⊕ ρ)} (mk : Int → Nat → σ) (out : Int → ρ) (bad : Option ρ)
    (hs : ∀ k x a, l[k]? = some x → (0 : Int) ≤ a → a ≤ B → (∃ t, f (mk a k) = some (.inl (mk t (k + 1))) ∧ a ≤ t ∧ t ≤ a + M ∧ (t ≤ 20000 → good x)) ∨ ∃ b, bad = some b ∧ f (mk a k) = some (.inr b))
    (he : ∀ a, f (mk a l.length) = some (.inr (out a))) (a : Int) (h0 : 0 ≤ a) (h1 : a + (M * l.length : Nat) ≤ B) :
    (∃ b, bad = some b ∧ lp f (mk a 0) = some b) ∨ ∃ t, lp f (mk a 0) = some (out t) ∧ a ≤ t ∧ t ≤ a + (M * l.length : Nat) ∧ (t ≤ 20000 → ∀ x ∈ l, good x) := by
  rcases cost_go l good M B mk out bad hs he l.length 0 a (by omega) h0 h1 with h | ⟨t, h2, h3, h4, h5⟩
  · exact .inl h
  · refine .inr ⟨t, h2, h3, h4, fun hle x hx => ?_⟩
    obtain ⟨j, hj⟩ := List.mem_iff_getElem?.1 hx
    exact h5 hle j x (Nat.zero_le _) hj
theorem cost0 {α σ ρ : Type} (l : List α) (good : α → Prop) (M : Nat) (B : Int) {f : σ → Option (σ ⊕ ρ)} (mk : Int → Nat → σ) (out : Int → ρ)
    (hs : ∀ k x a, l[k]? = some x → (0 : Int) ≤ a → a ≤ B → ∃ t, f (mk a k) = some (.inl (mk t (k + 1))) ∧ a ≤ t ∧ t ≤ a + M ∧ (t ≤ 20000 → good x))
    (he : ∀ a, f (mk a l.length) = some (.inr (out a))) (a : Int) (h0 : 0 ≤ a) (h1 : a + (M * l.length : Nat) ≤ B) :
    ∃ t, lp f (mk a 0) = some (out t) ∧ a ≤ t ∧ t ≤ a + (M * l.length : Nat) ∧ (t ≤ 20000 → ∀ x ∈ l, good x) := by
  rcases cost_lp l good M B mk out none (fun k x a hx h0 h1 => .inl (hs k x a hx h0 h1)) he a h0 h1 with ⟨b, hb, _⟩ | h
  · cases hb
  · exact h
theorem m30 (n : Nat) : 0 ≤ (if 30000 < (n : Int) then (30000 : Int) else (n : Int)) ∧ (if 30000 < (n : Int) then (30000 : Int) else (n : Int)) ≤ 30000 ∧ ((if 30000 < (n : Int) then (30000 : Int) else (n : Int)) ≤ 20000 → n ≤ 20000) := by
  split <;> omega
theorem great_seen (s : Tapi_State) (hn : s.Seen.length ≤ 60) (a : Int) (h0 : 0 ≤ a) (h1 : a ≤ 500000000) :
    ∃ t, lp (tollwaylaw49_great_L7_step s) (a, (0 : Nat)) = some t ∧ a ≤ t ∧ t ≤ a + 60000000 ∧ (t ≤ 20000 → ∀ x ∈ s.Seen, Dshort x.D) := by
  obtain ⟨t, h2, h3, h4, h5⟩ := cost0 s.Seen (fun x => Dshort x.D) 1000000 600000000 (fun a k => (a, k)) (f := tollwaylaw49_great_L7_step s) (fun a => a) (fun k x a hx h0 h1 => by
    have hk := get_lt hx
    have d1 := m30 x.D.Device.length
    have d2 := m30 x.D.Tag.length
    have d3 := m30 x.D.Plate.length
    unfold tollwaylaw49_great_L7_step
    generalize e1 : (if 30000 < (x.D.Device.length : Int) then (30000 : Int) else (x.D.Device.length : Int)) = z1 at d1
    generalize e2 : (if 30000 < (x.D.Tag.length : Int) then (30000 : Int) else (x.D.Tag.length : Int)) = z2 at d2
    generalize e3 : (if 30000 < (x.D.Plate.length : Int) then (30000 : Int) else (x.D.Plate.length : Int)) = z3 at d3
    refine ⟨a + (z1 + z2 + z3), ite_t (by omega) (bind_i hx ?_), by omega, by omega, fun h => ⟨by omega, by omega, by omega⟩⟩
    rw [e1, e2, e3]
    exact guard_i (inR_i64.2 (by omega)) (bind_i rfl (guard_i (inR_i64.2 (by omega)) (bind_i rfl (guard_i (inR_i64.2 (by omega)) (guard_i (inR_i64.2 (by omega)) rfl)))))) (fun a => by
    unfold tollwaylaw49_great_L7_step
    exact ite_f (by omega) rfl) a h0 (by omega)
  exact ⟨t, h2, h3, by omega, h5⟩
theorem great_rej (s : Tapi_State) (hn : s.Rejects.length ≤ 60) (a : Int) (h0 : 0 ≤ a) (h1 : a ≤ 500000000) :
    ∃ t, lp (tollwaylaw49_great_L30_step s) (a, (0 : Nat)) = some t ∧ a ≤ t ∧ t ≤ a + 60000000 ∧ (t ≤ 20000 → ∀ x ∈ s.Rejects, Dshort x.D) := by
  obtain ⟨t, h2, h3, h4, h5⟩ := cost0 s.Rejects (fun x => Dshort x.D) 1000000 600000000 (fun a k => (a, k)) (f := tollwaylaw49_great_L30_step s) (fun a => a) (fun k x a hx h0 h1 => by
    have hk := get_lt hx
    have d1 := m30 x.D.Device.length
    have d2 := m30 x.D.Tag.length
    have d3 := m30 x.D.Plate.length
    unfold tollwaylaw49_great_L30_step
    generalize e1 : (if 30000 < (x.D.Device.length : Int) then (30000 : Int) else (x.D.Device.length : Int)) = z1 at d1
    generalize e2 : (if 30000 < (x.D.Tag.length : Int) then (30000 : Int) else (x.D.Tag.length : Int)) = z2 at d2
    generalize e3 : (if 30000 < (x.D.Plate.length : Int) then (30000 : Int) else (x.D.Plate.length : Int)) = z3 at d3
    refine ⟨a + (z1 + z2 + z3), ite_t (by omega) (bind_i hx ?_), by omega, by omega, fun h => ⟨by omega, by omega, by omega⟩⟩
    rw [e1, e2, e3]
    exact guard_i (inR_i64.2 (by omega)) (bind_i rfl (guard_i (inR_i64.2 (by omega)) (bind_i rfl (guard_i (inR_i64.2 (by omega)) (guard_i (inR_i64.2 (by omega)) rfl)))))) (fun a => by
    unfold tollwaylaw49_great_L30_step
    exact ite_f (by omega) rfl) a h0 (by omega)
  exact ⟨t, h2, h3, by omega, h5⟩
theorem great_park (s : Tapi_State) (hn : s.Parked.length ≤ 60) (a : Int) (h0 : 0 ≤ a) (h1 : a ≤ 500000000) :
    ∃ t, lp (tollwaylaw49_great_L53_step s) (a, (0 : Nat)) = some t ∧ a ≤ t ∧ t ≤ a + 60000000 ∧ (t ≤ 20000 → ∀ x ∈ s.Parked, x.Zone.length ≤ 20000 ∧ x.Plate.length ≤ 20000) := by
  obtain ⟨t, h2, h3, h4, h5⟩ := cost0 s.Parked (fun x => x.Zone.length ≤ 20000 ∧ x.Plate.length ≤ 20000) 1000000 600000000 (fun a k => (a, k)) (f := tollwaylaw49_great_L53_step s) (fun a => a) (fun k x a hx h0 h1 => by
    have hk := get_lt hx
    have d1 := m30 x.Zone.length
    have d2 := m30 x.Plate.length
    unfold tollwaylaw49_great_L53_step
    generalize e1 : (if 30000 < (x.Zone.length : Int) then (30000 : Int) else (x.Zone.length : Int)) = z1 at d1
    generalize e2 : (if 30000 < (x.Plate.length : Int) then (30000 : Int) else (x.Plate.length : Int)) = z2 at d2
    refine ⟨a + (z1 + z2), ite_t (by omega) (bind_i hx ?_), by omega, by omega, fun h => ⟨by omega, by omega⟩⟩
    rw [e1, e2]
    exact guard_i (inR_i64.2 (by omega)) (bind_i rfl (guard_i (inR_i64.2 (by omega)) (guard_i (inR_i64.2 (by omega)) rfl)))) (fun a => by
    unfold tollwaylaw49_great_L53_step
    exact ite_f (by omega) rfl) a h0 (by omega)
  exact ⟨t, h2, h3, by omega, h5⟩
theorem great_cases (s : Tapi_State) (hn : s.Cases.length ≤ 60) (a : Int) (h0 : 0 ≤ a) (h1 : a ≤ 500000000) :
    ∃ t, lp (tollwaylaw49_great_L172_step s) (a, (0 : Nat)) = some t ∧ a ≤ t ∧ t ≤ a + 60000000 ∧ (t ≤ 20000 → ∀ x ∈ s.Cases, x.ID.length ≤ 20000 ∧ x.Plate.length ≤ 20000 ∧ x.Key.length ≤ 20000) := by
  obtain ⟨t, h2, h3, h4, h5⟩ := cost0 s.Cases (fun x => x.ID.length ≤ 20000 ∧ x.Plate.length ≤ 20000 ∧ x.Key.length ≤ 20000) 1000000 600000000 (fun a k => (a, k)) (f := tollwaylaw49_great_L172_step s) (fun a => a) (fun k x a hx h0 h1 => by
    have hk := get_lt hx
    have d1 := m30 x.ID.length
    have d2 := m30 x.Plate.length
    have d3 := m30 x.Key.length
    unfold tollwaylaw49_great_L172_step
    generalize e1 : (if 30000 < (x.ID.length : Int) then (30000 : Int) else (x.ID.length : Int)) = z1 at d1
    generalize e2 : (if 30000 < (x.Plate.length : Int) then (30000 : Int) else (x.Plate.length : Int)) = z2 at d2
    generalize e3 : (if 30000 < (x.Key.length : Int) then (30000 : Int) else (x.Key.length : Int)) = z3 at d3
    refine ⟨a + (z1 + z2 + z3), ite_t (by omega) (bind_i hx ?_), by omega, by omega, fun h => ⟨by omega, by omega, by omega⟩⟩
    rw [e1, e2, e3]
    exact guard_i (inR_i64.2 (by omega)) (bind_i rfl (guard_i (inR_i64.2 (by omega)) (bind_i rfl (guard_i (inR_i64.2 (by omega)) (guard_i (inR_i64.2 (by omega)) rfl)))))) (fun a => by
    unfold tollwaylaw49_great_L172_step
    exact ite_f (by omega) rfl) a h0 (by omega)
  exact ⟨t, h2, h3, by omega, h5⟩
theorem great_posts (s : Tapi_State) (v : Int) (k0 : Nat) (e : Tapi_Entry) (hn : e.Posts.length ≤ 30) (a : Int) (h0 : 0 ≤ a) (h1 : a ≤ 999000000) :
    ∃ t, lp (tollwaylaw49_great_L101_step s v k0 e) (a, (0 : Nat)) = some t ∧ a ≤ t ∧ t ≤ a + 900000 ∧ (t ≤ 20000 → ∀ y ∈ e.Posts, y.Account.length ≤ 20000) := by
  obtain ⟨t, h2, h3, h4, h5⟩ := cost0 e.Posts (fun y => y.Account.length ≤ 20000) 30000 1000000000 (fun a k => (a, k)) (f := tollwaylaw49_great_L101_step s v k0 e) (fun a => a) (fun k x a hx h0 h1 => by
    have hk := get_lt hx
    have d1 := m30 x.Account.length
    unfold tollwaylaw49_great_L101_step
    generalize e1 : (if 30000 < (x.Account.length : Int) then (30000 : Int) else (x.Account.length : Int)) = z1 at d1
    refine ⟨a + z1, ite_t (by omega) (bind_i hx ?_), by omega, by omega, fun h => by omega⟩
    rw [e1]
    exact guard_i (inR_i64.2 (by omega)) (bind_i rfl (guard_i (inR_i64.2 (by omega)) rfl))) (fun a => by
    unfold tollwaylaw49_great_L101_step
    exact ite_f (by omega) rfl) a h0 (by omega)
  exact ⟨t, h2, h3, by omega, h5⟩
theorem great_lines (s : Tapi_State) (v : Int) (k0 : Nat) (e : Tapi_Charge) (hn : e.Lines.length ≤ 30) (a : Int) (h0 : 0 ≤ a) (h1 : a ≤ 999000000) :
    ∃ t, lp (tollwaylaw49_great_L156_step s v k0 e) (a, (0 : Nat)) = some t ∧ a ≤ t ∧ t ≤ a + 900000 ∧ (t ≤ 20000 → ∀ y ∈ e.Lines, y.Text.length ≤ 20000) := by
  obtain ⟨t, h2, h3, h4, h5⟩ := cost0 e.Lines (fun y => y.Text.length ≤ 20000) 30000 1000000000 (fun a k => (a, k)) (f := tollwaylaw49_great_L156_step s v k0 e) (fun a => a) (fun k x a hx h0 h1 => by
    have hk := get_lt hx
    have d1 := m30 x.Text.length
    unfold tollwaylaw49_great_L156_step
    generalize e1 : (if 30000 < (x.Text.length : Int) then (30000 : Int) else (x.Text.length : Int)) = z1 at d1
    refine ⟨a + z1, ite_t (by omega) (bind_i hx ?_), by omega, by omega, fun h => by omega⟩
    rw [e1]
    exact guard_i (inR_i64.2 (by omega)) (bind_i rfl (guard_i (inR_i64.2 (by omega)) rfl))) (fun a => by
    unfold tollwaylaw49_great_L156_step
    exact ite_f (by omega) rfl) a h0 (by omega)
  exact ⟨t, h2, h3, by omega, h5⟩
theorem great_entries (s : Tapi_State) (hn : s.Books.Ledger.Entries.length ≤ 60) (a : Int) (h0 : 0 ≤ a) (h1 : a ≤ 500000000) :
    lp (tollwaylaw49_great_L70_step s) (a, (0 : Nat)) = some (.inl ()) ∨ ∃ t, lp (tollwaylaw49_great_L70_step s) (a, (0 : Nat)) = some (.inr t) ∧ a ≤ t ∧ t ≤ a + 60000000 ∧
      (t ≤ 20000 → ∀ x ∈ s.Books.Ledger.Entries, x.Key.length ≤ 20000 ∧ x.Posts.length ≤ 30 ∧ ∀ y ∈ x.Posts, y.Account.length ≤ 20000) := by
  rcases cost_lp s.Books.Ledger.Entries (fun x => x.Key.length ≤ 20000 ∧ x.Posts.length ≤ 30 ∧ ∀ y ∈ x.Posts, y.Account.length ≤ 20000) 1000000 600000000 (fun a k => (a, k)) (f := tollwaylaw49_great_L70_step s) (fun a => Sum.inr a) (some (.inl ())) (fun k x a hx h0 h1 => by
    have hk := get_lt hx
    unfold tollwaylaw49_great_L70_step
    by_cases hp : x.Posts.length ≤ 30
    · refine .inl ?_
      have d1 := m30 x.Key.length
      generalize e1 : (if 30000 < (x.Key.length : Int) then (30000 : Int) else (x.Key.length : Int)) = z1 at d1
      obtain ⟨t, g1, g2, g3, g4⟩ := great_posts s 0 0 x hp (a + z1) (by omega) (by omega)
      refine ⟨t, ite_t (by omega) (bind_i hx (ite_f (by omega) ?_)), by omega, by omega, fun h => ⟨by omega, hp, g4 h⟩⟩
      rw [e1]
      exact guard_i (inR_i64.2 (by omega)) (bind_i rfl (bind_i g1 (guard_i (inR_i64.2 (by omega)) rfl)))
    · exact .inr ⟨_, rfl, ite_t (by omega) (bind_i hx (ite_t (by omega) rfl))⟩) (fun a => by
    unfold tollwaylaw49_great_L70_step
    exact ite_f (by omega) rfl) a h0 (by omega) with ⟨b, hb, h⟩ | ⟨t, h2, h3, h4, h5⟩
  · cases hb; exact .inl h
  · exact .inr ⟨t, h2, h3, by omega, h5⟩
theorem great_done (s : Tapi_State) (hn : s.Books.Done.length ≤ 60) (a : Int) (h0 : 0 ≤ a) (h1 : a ≤ 500000000) :
    lp (tollwaylaw49_great_L117_step s) (a, (0 : Nat)) = some (.inl ()) ∨ ∃ t, lp (tollwaylaw49_great_L117_step s) (a, (0 : Nat)) = some (.inr t) ∧ a ≤ t ∧ t ≤ a + 60000000 ∧
      (t ≤ 20000 → ∀ x ∈ s.Books.Done, x.Key.length ≤ 20000 ∧ x.Vehicle.length ≤ 20000 ∧ x.System.length ≤ 20000 ∧ x.Lines.length ≤ 30 ∧ ∀ y ∈ x.Lines, y.Text.length ≤ 20000) := by
  rcases cost_lp s.Books.Done (fun x => x.Key.length ≤ 20000 ∧ x.Vehicle.length ≤ 20000 ∧ x.System.length ≤ 20000 ∧ x.Lines.length ≤ 30 ∧ ∀ y ∈ x.Lines, y.Text.length ≤ 20000) 1000000 600000000 (fun a k => (a, k)) (f := tollwaylaw49_great_L117_step s) (fun a => Sum.inr a) (some (.inl ())) (fun k x a hx h0 h1 => by
    have hk := get_lt hx
    unfold tollwaylaw49_great_L117_step
    by_cases hp : x.Lines.length ≤ 30
    · refine .inl ?_
      have d1 := m30 x.Key.length
      have d2 := m30 x.Vehicle.length
      have d3 := m30 x.System.length
      generalize e1 : (if 30000 < (x.Key.length : Int) then (30000 : Int) else (x.Key.length : Int)) = z1 at d1
      generalize e2 : (if 30000 < (x.Vehicle.length : Int) then (30000 : Int) else (x.Vehicle.length : Int)) = z2 at d2
      generalize e3 : (if 30000 < (x.System.length : Int) then (30000 : Int) else (x.System.length : Int)) = z3 at d3
      obtain ⟨t, g1, g2, g3, g4⟩ := great_lines s 0 0 x hp (a + (z1 + z2 + z3)) (by omega) (by omega)
      refine ⟨t, ite_t (by omega) (bind_i hx (ite_f (by omega) ?_)), by omega, by omega, fun h => ⟨by omega, by omega, by omega, hp, g4 h⟩⟩
      rw [e1, e2, e3]
      exact guard_i (inR_i64.2 (by omega)) (bind_i rfl (guard_i (inR_i64.2 (by omega)) (bind_i rfl (guard_i (inR_i64.2 (by omega)) (bind_i g1 (guard_i (inR_i64.2 (by omega)) rfl))))))
    · exact .inr ⟨_, rfl, ite_t (by omega) (bind_i hx (ite_t (by omega) rfl))⟩) (fun a => by
    unfold tollwaylaw49_great_L117_step
    exact ite_f (by omega) rfl) a h0 (by omega) with ⟨b, hb, h⟩ | ⟨t, h2, h3, h4, h5⟩
  · cases hb; exact .inl h
  · exact .inr ⟨t, h2, h3, by omega, h5⟩
theorem great_small (s : Tapi_State) : tollwaylaw49_great s = some true ∨ (tollwaylaw49_great s = some false ∧ Small s) := by
  unfold tollwaylaw49_great
  by_cases n1 : s.Seen.length ≤ 60
  case neg => exact .inl (ite_t (by omega) rfl)
  rw [if_neg (by omega)]
  by_cases n2 : s.Rejects.length ≤ 60
  case neg => exact .inl (ite_t (by omega) rfl)
  rw [if_neg (by omega)]
  by_cases n3 : s.Parked.length ≤ 60
  case neg => exact .inl (ite_t (by omega) rfl)
  rw [if_neg (by omega)]
  by_cases n4 : s.Books.Ledger.Entries.length ≤ 60
  case neg => exact .inl (ite_t (by omega) rfl)
  rw [if_neg (by omega)]
  by_cases n5 : s.Books.Done.length ≤ 60
  case neg => exact .inl (ite_t (by omega) rfl)
  rw [if_neg (by omega)]
  by_cases n6 : s.Cases.length ≤ 60
  case neg => exact .inl (ite_t (by omega) rfl)
  rw [if_neg (by omega)]
  obtain ⟨t1, e1, a1, b1, c1⟩ := great_seen s n1 0 (by omega) (by omega)
  obtain ⟨t2, e2, a2, b2, c2⟩ := great_rej s n2 t1 (by omega) (by omega)
  obtain ⟨t3, e3, a3, b3, c3⟩ := great_park s n3 t2 (by omega) (by omega)
  rcases great_entries s n4 t3 (by omega) (by omega) with e4 | ⟨t4, e4, a4, b4, c4⟩
  · exact .inl (bind_i e1 (bind_i e2 (bind_i e3 (bind_i e4 rfl))))
  rcases great_done s n5 t4 (by omega) (by omega) with e5 | ⟨t5, e5, a5, b5, c5⟩
  · exact .inl (bind_i e1 (bind_i e2 (bind_i e3 (bind_i e4 (bind_i e5 rfl)))))
  obtain ⟨t6, e6, a6, b6, c6⟩ := great_cases s n6 t5 (by omega) (by omega)
  by_cases hle : t6 ≤ 20000
  · refine .inr ⟨bind_i e1 (bind_i e2 (bind_i e3 (bind_i e4 (bind_i e5 (bind_i e6 ?_))))), n1, n2, n3, n4, n5, n6, c1 (by omega), c2 (by omega), c3 (by omega), c4 (by omega), c5 (by omega), c6 hle⟩
    rw [decide_eq_false (by omega)]
  · refine .inl (bind_i e1 (bind_i e2 (bind_i e3 (bind_i e4 (bind_i e5 (bind_i e6 ?_))))))
    rw [decide_eq_true (by omega)]
theorem tollwaylaw49_StoreSaves_true (s : Tapi_State) (hw : Tapi_State.wf s) : tollwaylaw49_StoreSaves s = some true := by
  unfold tollwaylaw49_StoreSaves
  rcases great_small s with h | ⟨h, hs⟩
  · exact bind_i h (ite_t rfl (bind_i (v := true) rfl rfl))
  · obtain ⟨w, wl, e1, e2⟩ := save_both s hw hs
    exact bind_i h (ite_f (by decide) (bind_i e1 (bind_i e2 (bind_i (same_self w (by omega)) (ite_t rfl (bind_i (v := true) rfl rfl))))))
end Go.Proofs.Yteljonodbkkckaa.Av
