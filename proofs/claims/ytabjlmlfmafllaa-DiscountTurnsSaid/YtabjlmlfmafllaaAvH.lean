/- Slices of slices, make, conversions. -/
import Derived.Test.YtabjlmlfmafllaaAvG
set_option linter.unusedVariables false
set_option linter.unusedSimpArgs false
namespace Go.Proofs.Ytabjlmlfmafllaa.Av
open Go.RowKit

variable {P : Program} {μ μ' : Nat → Option Loc} {ro ro' : Nat → Prop} {w w' : World}

/-- the offset of a slice's new start: none if it can't be told -/
def aOff (hn : Hint) (lo : Option AV) (ex : Bool) (off l cap z : Nat) : W Nat :=
  match lo with
  | none => W.pure off
  | some _ =>
    match hn with
    | .s _ _ => (W.req true (l < cap)).bind fun _ => W.pure (ad off (mu l z))
    | _ => match l with
      | 0 => W.pure off
      | l + 1 => match Nat.blt (l + 1) cap with | true => W.pure (ad off (mu (l + 1) z)) | false => match ex with | true => W.pure off | false => W.fail
/-- 'cap'': the true capacity -/
theorem aOff_sat {hn : Hint} {lo : Option AV} {ex : Bool} {off l cap z : Nat} (h0 : lo = none → l = 0) (hle : l ≤ cap) :
    (aOff hn lo ex off l cap z).sat fun o => o ≤ off + l * z ∧ ∀ cap', cap ≤ cap' → (ex = true → cap' = cap) → ∀ b : Nat, (if cap' = l then (⟨b, off, none⟩ : Addr) else (⟨b, off, none⟩ : Addr).add (l * z)) = ⟨b, o, none⟩ := by
  have key : ∀ (off l : Nat) cap', l < cap → cap ≤ cap' → ∀ b : Nat, (if cap' = l then (⟨b, off, none⟩ : Addr) else (⟨b, off, none⟩ : Addr).add (l * z)) = ⟨b, ad off (mu l z), none⟩ := fun off l cap' h1 h2 b => by
    rw [if_neg (by omega), addr_add, ad_eq, mu_eq]
  have zero : ∀ (off : Nat) cap' (b : Nat), (if cap' = 0 then (⟨b, off, none⟩ : Addr) else (⟨b, off, none⟩ : Addr).add (0 * z)) = ⟨b, off, none⟩ := fun off cap' b => by
    rw [addr_add]; split <;> simp
  unfold aOff
  split
  · refine W.sat_pure ⟨by omega, fun cap' _ _ b => ?_⟩
    rw [h0 rfl]; exact zero _ _ _
  · split
    · exact W.sat_bind W.sat_req fun _ h => W.sat_pure ⟨by rw [ad_eq, mu_eq]; omega, fun cap' hc _ b => key _ _ _ h hc b⟩
    · split
      · exact W.sat_pure ⟨by omega, fun cap' _ _ b => zero _ _ _⟩
      · rename_i l
        split
        · rename_i hb
          have := Nat.le_of_ble_eq_true hb
          exact W.sat_pure ⟨by rw [ad_eq, mu_eq]; exact Nat.le_refl _, fun cap' hc _ b => key _ _ _ (by omega) hc b⟩
        · rename_i hb
          split
          · refine W.sat_pure ⟨by omega, fun cap' hc he b => ?_⟩
            have h2 : ¬ l + 1 < cap := fun h => by
              have : Nat.blt (l + 1) cap = true := Nat.ble_eq_true_of_le h
              rw [this] at hb; cases hb
            rw [he rfl, if_pos (by simp at hle; omega)]
          · exact W.sat_fail

/-- what is left of the cells of a slice that is only read -/
def aLstPart (sy : Bool) (lo hi : Option AV) (c : List AV) (n l h z : Nat) : W (List AV) :=
  match lo, hi with
  | none, none => W.pure c
  | none, some _ => W.pure (c.take (mu h z))
  | some _, none => (W.req sy (c.length ≤ mu n z)).bind fun _ => W.pure (c.drop (mu l z))
  | some _, some _ => W.pure ((c.take (mu h z)).drop (mu l z))

theorem aLstPart_rep {sy : Bool} {lo hi : Option AV} {c : List AV} {n l h z : Nat} {a : Addr} {cap' : Nat} {o : Bool} (hx : Rep μ ro w o (.lst c n) (.slice (some a) n cap')) (hc : n ≤ cap')
    (hl : l ≤ h) (hh : h ≤ n) (hi0 : hi = none → h = n) (hl0 : lo = none → l = 0) :
    (aLstPart sy lo hi c n l h z).sat fun d => Rep μ ro w o (.lst d (h - l)) (.slice (if cap' = l then some a else (some a).map (·.add (l * z))) (h - l) (cap' - l)) := by
  have hcl : h - l ≤ cap' - l := by omega
  cases hx with
  | lst vs hb hcell hr hnc =>
    have fin : ∀ d : List AV, d = (c.take d.length |>.drop 0) ∨ True → (∀ i, i < d.length → l * z + i < c.length ∧ d.getD i .any = c.getD (l * z + i) .any) → (cap' = l → l * z = 0 ∨ d = []) →
        Rep μ ro w o (.lst d (h - l)) (.slice (if cap' = l then some a else (some a).map (·.add (l * z))) (h - l) (cap' - l)) := by
      intro d _ hd hcap
      have hne : d ≠ [] → c ≠ [] := fun hdn hcn => by
        subst hcn
        cases d with
        | nil => exact hdn rfl
        | cons x d => have := (hd 0 (by simp)).1; simp at this
      by_cases hd0 : d = []
      · subst hd0
        by_cases e : cap' = l
        · rw [if_pos e]
          exact .lst vs (fun h => absurd rfl h) (fun i hi => by simp at hi) (fun i hi => by simp at hi) hcl
        · rw [if_neg e]
          exact .lst vs (fun h => absurd rfl h) (fun i hi => by simp at hi) (fun i hi => by simp at hi) hcl
      · obtain ⟨hro, hsp⟩ := hb (hne hd0)
        obtain ⟨blk, off, spot⟩ := a
        simp only at hro hsp hcell
        subst hsp
        have e : (if cap' = l then some (⟨blk, off, none⟩ : Addr) else (some (⟨blk, off, none⟩ : Addr)).map (·.add (l * z))) = some ⟨blk, off + l * z, none⟩ := by
          by_cases e : cap' = l
          · rw [if_pos e]
            rcases hcap e with h | h
            · rw [h]; rfl
            · exact absurd h hd0
          · rw [if_neg e]; simp [addr_add]
        rw [e]
        refine .lst (fun i => vs (l * z + i)) (fun _ => ⟨hro, rfl⟩) (fun i hi => ?_) (fun i hi => ?_) hcl
        · have := hcell _ (hd i hi).1
          simpa [Nat.add_assoc] using this
        · rw [(hd i hi).2]; exact hr _ (hd i hi).1
    have drop_get : ∀ (c : List AV) (m i : Nat), (c.drop m).getD i .any = c.getD (m + i) .any := fun c m i => by simp [List.getD, List.getElem?_drop]
    have take_get : ∀ (c : List AV) (m i : Nat), i < m → (c.take m).getD i .any = c.getD i .any := fun c m i hi => by simp [List.getD, List.getElem?_take, hi]
    unfold aLstPart
    split
    · refine W.sat_pure ?_
      obtain rfl := hl0 rfl
      refine fin c (.inr trivial) (fun i hi => ⟨by omega, by rw [Nat.zero_mul, Nat.zero_add]⟩) (fun _ => .inl (by simp))
    · refine W.sat_pure ?_
      obtain rfl := hl0 rfl
      refine fin _ (.inr trivial) (fun i hi => ?_) (fun _ => .inl (by simp))
      simp only [List.length_take] at hi
      refine ⟨by omega, ?_⟩
      rw [take_get _ _ _ (by omega), Nat.zero_mul, Nat.zero_add]
    · refine W.sat_bind W.sat_req fun _ hlen => W.sat_pure ?_
      obtain rfl := hi0 rfl
      rw [mu_eq] at hlen ⊢
      refine fin _ (.inr trivial) (fun i hi => ?_) (fun e => .inr ?_)
      · simp only [List.length_drop] at hi
        exact ⟨by omega, drop_get _ _ _⟩
      · have e2 : l = h := by omega
        subst e2
        exact List.drop_eq_nil_of_le hlen
    · refine W.sat_pure ?_
      rw [mu_eq, mu_eq]
      refine fin _ (.inr trivial) (fun i hi => ?_) (fun e => .inr ?_)
      · simp only [List.length_drop, List.length_take] at hi
        refine ⟨by omega, ?_⟩
        rw [drop_get, take_get _ _ _ (by omega)]
      · have e2 : l = h := by omega
        subst e2
        exact List.drop_eq_nil_of_le (by simp; omega)

def mi (lo : Option AV) (a b : Nat) : Nat := match lo with | none => a | some _ => a - b
theorem mi_eq {lo : Option AV} {a b : Nat} (h : lo = none → b = 0) : mi lo a b = a - b := by
  cases lo with
  | none => simp [mi, h rfl]
  | some _ => rfl
def aSlice (P : Program) (hn : Hint) (t : TypeId) (x : AV) (lo hi : Option AV) (h : Hp) : W AV :=
  match P.underlying t, x with
  | some .string, .str s => (aBounds hn lo hi s.length s.length).bind fun p => W.pure (.str (aSliceStr s lo hi p.1 p.2))
  | some (.slice e), .sl id off len cap ex z' =>
    (W.of (szOf P e)).bind fun z => (W.req false (z' = z)).bind fun _ => (aBounds hn lo hi len cap).bind fun p => (aOff hn lo ex off p.1 cap z).bind fun o =>
    W.pure (.sl id o (mi lo p.2 p.1) (mi lo cap p.1) ex z)
  | some (.slice e), .lst c n =>
    (W.of (szOf P e)).bind fun z => (aBounds hn lo hi n n).bind fun p => (aLstPart hn.sy lo hi c n p.1 p.2 z).bind fun d =>
    W.pure (.lst d (mi lo p.2 p.1))
  | some (.slice e), .nils => (W.of (szOf P e)).bind fun z => (aBounds hn lo hi 0 0).bind fun p => W.pure .nils
  | some (.array n e), .ptr id off =>
    (W.of (szOf P e)).bind fun z => (W.of (match h.m.get id with | some (.blk k) => some k | _ => none)).bind fun k => (W.req false (off + n * z ≤ k.c.length)).bind fun _ => (aBounds hn lo hi n n).bind fun p => (aOff hn lo true off p.1 n z).bind fun o =>
    W.pure (.sl id o (mi lo p.2 p.1) (mi lo n p.1) true z)
  | _, _ => W.fail

theorem aSlice_sat {hn : Hint} {t : TypeId} {x : AV} {a : Value} {lo hi : Option AV} {lo' hi' : Option Value} {h : Hp} (hp : HpRel μ ro h w) (hx : Rep μ ro w true x a)
    (hl : ∀ v, lo = some v → ∃ x, lo' = some x ∧ Rep μ ro w true v x) (hl0 : lo = none → lo' = none)
    (hh : ∀ v, hi = some v → ∃ x, hi' = some x ∧ Rep μ ro w true v x) (hh0 : hi = none → hi' = none) :
    (aSlice P hn t x lo hi h).sat fun v => ∃ v', (∀ w, (Instr.sliceAt t a lo' hi' none).run P w = .ok v' w) ∧ Rep μ ro w true v v' := by
  have hsz : ∀ e, (W.of (szOf P e)).sat fun z => ∃ i, P.info? e = some i ∧ i.size = z := fun e => W.sat_of fun z hz => szOf_info hz
  unfold aSlice
  split
  · rename_i s hu
    cases hx with
    | str hs =>
      rename_i b
      refine W.sat_bind (aBounds_sat (P := P) hl hl0 hh hh0) fun p ⟨h1, h2, h3, h4, h5⟩ => W.sat_pure ⟨.string (b.extract p.1 p.2), fun w => ?_, .str ?_⟩
      · have := h5 false s.length w (Nat.le_refl _)
        have e : s.length = b.size := by rw [← hs, bytes_len]
        rw [e] at this
        simp [Instr.sliceAt, Instr.slice, r_underlying hu, this, Result.andThen]
      · subst hs
        have e : (b.extract p.1 p.2).data.toList = (b.data.toList.take p.2).drop p.1 := by
          simp [ByteArray.data_extract, List.extract_eq_take_drop, List.drop_take]
        rw [e]
        unfold aSliceStr
        cases lo <;> cases hi <;> simp only
        · rw [h4 rfl, h3 rfl, List.drop_zero, List.take_length]
        · rw [h4 rfl, List.drop_zero]
        · rw [h3 rfl, List.take_length]
  · rename_i e id off len cap ex z' hu
    refine W.sat_bind (hsz e) fun z ⟨i, hi, hz⟩ => W.sat_bind W.sat_req fun _ hzz => W.sat_bind (aBounds_sat (P := P) hl hl0 hh hh0) fun p ⟨h1, h2, h3, h4, h5⟩ => W.sat_bind (aOff_sat h4 (by omega)) fun o ⟨hoo, ho⟩ => W.sat_pure ?_
    subst hzz
    subst hz
    rw [mi_eq h4, mi_eq h4]
    cases hx with
    | sl hb hc1 hc2 hc3 =>
      rename_i cap' b
      have hmul : (cap' - p.1) * i.size + p.1 * i.size = cap' * i.size := by rw [← Nat.add_mul, Nat.sub_add_cancel (by omega)]
      refine ⟨.slice (some ⟨b.1, o, none⟩) (p.2 - p.1) (cap' - p.1), fun w => ?_, .sl hb (by omega) (fun h => by have := hc2 h; omega) (by omega)⟩
      have := ho cap' hc1 hc2 b.1
      have e2 : (if cap' = p.1 then some (⟨b.1, off, none⟩ : Addr) else (some (⟨b.1, off, none⟩ : Addr)).map (·.add (p.1 * i.size))) = some ⟨b.1, o, none⟩ := by
        rw [← this]; split <;> rfl
      simp only [Instr.sliceAt, Sem.run_bind, r_underlying hu, Result.andThen_ok, Instr.slice, h5 true cap' w hc1, r_sizeOf hi, Sem.run_pure]
      rw [e2]
  · rename_i e c n hu
    refine W.sat_bind (hsz e) fun z ⟨i, hi, hz⟩ => W.sat_bind (aBounds_sat (P := P) hl hl0 hh hh0) fun p ⟨h1, h2, h3, h4, h5⟩ => ?_
    subst hz
    have hx' := hx
    cases hx with
    | lstn =>
      have hd : ∀ hx : Option AV, (aLstPart hn.sy lo hx [] 0 p.1 p.2 i.size).sat fun d => d = [] := fun hx => by
        unfold aLstPart
        split
        · exact W.sat_pure rfl
        · exact W.sat_pure (by simp)
        · exact W.sat_bind (Q := fun _ => True) (fun _ _ _ _ => trivial) fun _ _ => W.sat_pure (by simp)
        · exact W.sat_pure (by simp)
      refine W.sat_bind (hd _) fun d hd => W.sat_pure ?_
      subst hd
      have e1 : p.2 = 0 := by omega
      have e2 : p.1 = 0 := by omega
      rw [mi_eq h4, e1, e2]
      refine ⟨.slice none 0 0, fun w => ?_, .lstn⟩
      have := h5 true 0 w (Nat.le_refl _)
      rw [e1, e2] at this
      simp [Instr.sliceAt, r_underlying hu, Instr.slice, this, r_sizeOf hi, Result.andThen]
    | lst vs hb hcell hr hnc =>
      rename_i cap' a
      refine W.sat_bind (aLstPart_rep hx' hnc h1 h2 h3 h4) fun d hd => W.sat_pure ?_
      rw [mi_eq h4]
      refine ⟨_, fun w => ?_, hd⟩
      simp only [Instr.sliceAt, Sem.run_bind, r_underlying hu, Result.andThen_ok, Instr.slice, h5 true cap' w hnc, r_sizeOf hi, Sem.run_pure]
  · rename_i e hu
    refine W.sat_bind (hsz e) fun z ⟨i, hi, hz⟩ => W.sat_bind (aBounds_sat (P := P) hl hl0 hh hh0) fun p ⟨h1, h2, h3, h4, h5⟩ => W.sat_pure ?_
    subst hz
    cases hx
    refine ⟨.slice none 0 0, fun w => ?_, .nils⟩
    have e1 : p.2 = 0 := by omega
    have e2 : p.1 = 0 := by omega
    have := h5 true 0 w (Nat.le_refl _)
    rw [e1, e2] at this
    simp [Instr.sliceAt, r_underlying hu, Instr.slice, this, r_sizeOf hi, Result.andThen]
  · rename_i n e id off hu
    refine W.sat_bind (hsz e) fun z ⟨i, hi, hz⟩ => W.sat_bind (W.sat_of (Q := fun k => h.m.get id = some (.blk k)) fun k hk => by revert hk; split <;> simp_all) fun k hk => W.sat_bind W.sat_req fun _ hlen =>
      W.sat_bind (aBounds_sat (P := P) hl hl0 hh hh0) fun p ⟨h1, h2, h3, h4, h5⟩ => W.sat_bind (aOff_sat h4 (by omega)) fun o ⟨hoo, ho⟩ => W.sat_pure ?_
    subst hz
    rw [mi_eq h4, mi_eq h4]
    cases hx with
    | ptr hb =>
      rename_i b
      have hob := hp.obsM id _ _ hk hb
      obtain ⟨cs, fr, g1, g0, g2, g3, g4, g5⟩ := hob.get
      have hmul : (n - p.1) * i.size + p.1 * i.size = n * i.size := by rw [← Nat.add_mul, Nat.sub_add_cancel (by omega)]
      refine ⟨.slice (some ⟨b.1, o, none⟩) (p.2 - p.1) (n - p.1), fun w => ?_, .sl hb (Nat.le_refl _) (fun _ => rfl) (by omega)⟩
      have := ho n (Nat.le_refl _) (fun _ => rfl) b.1
      simp only [Instr.sliceAt, Sem.run_bind, r_underlying hu, Result.andThen_ok, Instr.sureAddr, h5 false n w (Nat.le_refl _), r_sizeOf hi, Sem.run_pure, this]
  · exact W.sat_fail
end Go.Proofs.Ytabjlmlfmafllaa.Av
