/- Addresses of parts, slices of slices, make, conversions, lengths. -/
import Derived.Test.YtabjlmlfmafllaaAvF
set_option linter.unusedVariables false
set_option linter.unusedSimpArgs false
namespace Go.Proofs.Ytabjlmlfmafllaa.Av
open Go.RowKit

variable {P : Program} {μ μ' : Nat → Option Loc} {ro ro' : Nat → Prop} {w w' : World}

def ad (a b : Nat) : Nat := bif Nat.beq a 0 then b else a + b
def mu (j z : Nat) : Nat := bif Nat.beq z 1 then j else j * z
theorem ad_eq (a b : Nat) : ad a b = a + b := by
  unfold ad
  cases h : Nat.beq a 0
  · rfl
  · have := Nat.eq_of_beq_eq_true h; subst this; simp
theorem mu_eq (j z : Nat) : mu j z = j * z := by
  unfold mu
  cases h : Nat.beq z 1
  · rfl
  · have := Nat.eq_of_beq_eq_true h; subst this; simp

def aFieldAddr (P : Program) (s : TypeId) (x : AV) (f : Nat) : Option AV :=
  match P.underlying s with
  | some (.struct fs) =>
    match fs[f]? with
    | some g =>
      match szOf P g.type with
      | some (n + 1) =>
        match x with
        | .ptr id off => some (.ptr id (off + g.offset))
        | .rop c off => some (.rop c (off + g.offset))
        | _ => none
      | _ => none
    | none => none
  | _ => none
theorem aFieldAddr_run {s : TypeId} {x v : AV} {a : Value} {f : Nat} (h : aFieldAddr P s x f = some v) (hx : Rep μ ro w true x a) :
    ∃ v', (∀ w, (Instr.fieldAt s a f).run P w = .ok v' w) ∧ Rep μ ro w true v v' := by
  unfold aFieldAddr at h
  split at h
  · rename_i fs hu
    split at h
    · rename_i g hg
      split at h
      · rename_i n hn
        obtain ⟨i, hi, hsz⟩ := szOf_info hn
        split at h
        · rename_i id off
          simp only [Option.some.injEq] at h
          subst h
          cases hx with
          | ptr hb =>
            rename_i b
            refine ⟨.pointer (some ⟨b.1, off + g.offset, none⟩), fun w => ?_, .ptr hb⟩
            simp [Instr.fieldAt, Instr.sureAddr, r_underlying hu, hg, fieldPlace, r_sizeOf hi, hsz, addr_add, Result.andThen]
        · rename_i c off
          simp only [Option.some.injEq] at h
          subst h
          cases hx with
          | rop vs hb hc hr =>
            rename_i b p
            refine ⟨.pointer (some ⟨b, p + off + g.offset, none⟩), fun w => ?_, ?_⟩
            · simp [Instr.fieldAt, Instr.sureAddr, r_underlying hu, hg, fieldPlace, r_sizeOf hi, hsz, addr_add, Result.andThen]
            · rw [Nat.add_assoc]; exact .rop vs hb hc hr
        · cases h
      · cases h
    · cases h
  · cases h

/-- not empty: as it is, or owed -/
def neE (hn : Hint) (c : List AV) : W Unit :=
  match hn with
  | .i _ => W.owe (c ≠ [])
  | _ => match c with | [] => W.fail | _ => W.pure ()
theorem neE_sat {hn : Hint} {c : List AV} : (neE hn c).sat fun _ => c ≠ [] := by
  unfold neE
  split
  · exact W.sat_owe
  · split
    · exact W.sat_fail
    · rename_i h; exact W.sat_pure h

def aIndexAddr (P : Program) (hn : Hint) (t : TypeId) (x i : AV) : W AV :=
  match P.underlying t, x, i with
  | some (.slice e), .sl id off len cap ex _, .int _ n =>
    (W.of (szOf P e)).bind fun z => (aIdx hn n len).bind fun j => W.pure (.ptr id (ad off (mu j z)))
  | some (.slice e), .vec id len _, .int _ n =>
    (W.of (szOf P e)).bind fun z => (aIdx hn n len).bind fun j => W.pure (.ptr id (mu j z))
  | some (.slice e), .lst c len, .int _ n =>
    (W.of (szOf P e)).bind fun z => (aIdx hn n len).bind fun j => (neE hn c).bind fun _ => W.pure (.rop c (mu j z))
  | some (.array len e), .ptr id off, .int _ n =>
    (W.of (szOf P e)).bind fun z => (aIdx hn n len).bind fun j => W.pure (.ptr id (ad off (mu j z)))
  | some (.array len e), .rop c off, .int _ n =>
    (W.of (szOf P e)).bind fun z => (aIdx hn n len).bind fun j => W.pure (.rop c (ad off (mu j z)))
  | _, _, _ => W.fail

theorem aIndexAddr_sat {hn : Hint} {t : TypeId} {x i : AV} {a b : Value} (hx : Rep μ ro w true x a) (hi : Rep μ ro w true i b) :
    (aIndexAddr P hn t x i).sat fun v => ∃ v', (∀ w, (Instr.indexAt t a b).run P w = .ok v' w) ∧ Rep μ ro w true v v' := by
  have hsz : ∀ e, (W.of (szOf P e)).sat fun z => ∃ i, P.info? e = some i ∧ i.size = z := fun e => W.sat_of fun z hz => szOf_info hz
  have hin : ∀ {n : Int} {len j : Nat}, n = (j : Int) ∧ j < len → (0 : Int) ≤ n ∧ n < len ∧ n.toNat = j := fun ⟨h1, h2⟩ => by omega
  unfold aIndexAddr
  split
  · rename_i e id off len cap ex z' k n hu
    cases hi
    refine W.sat_bind (hsz e) fun z ⟨i, hi, hz⟩ => W.sat_bind aIdx_sat fun j hj => W.sat_pure ?_
    obtain ⟨h1, h2, h3⟩ := hin hj
    subst hz
    cases hx with
    | sl hb hc1 hc2 hc3 =>
      rename_i cap' b
      refine ⟨.pointer (some ⟨b.1, off + j * i.size, none⟩), fun w => ?_, ?_⟩
      · simp only [Instr.indexAt, asIntOf, Sem.run_bind, Sem.run_pure, Result.andThen_ok, r_underlying hu]
        simp only [h1, h2, and_self, if_true, Sem.run_bind, r_sizeOf hi, Result.andThen_ok, h3, addr_add, Sem.run_pure]
      · rw [ad_eq, mu_eq]; exact .ptr hb
  · rename_i e id len z' k n hu
    cases hi
    refine W.sat_bind (hsz e) fun z ⟨i, hi, hz⟩ => W.sat_bind aIdx_sat fun j hj => W.sat_pure ?_
    obtain ⟨h1, h2, h3⟩ := hin hj
    subst hz
    cases hx with
    | vecn => have := hj.2; omega
    | vec hb hc1 hc3 =>
      rename_i cap' b
      refine ⟨.pointer (some ⟨b.1, j * i.size, none⟩), fun w => ?_, ?_⟩
      · simp only [Instr.indexAt, asIntOf, Sem.run_bind, Sem.run_pure, Result.andThen_ok, r_underlying hu]
        simp only [h1, h2, and_self, if_true, Sem.run_bind, r_sizeOf hi, Result.andThen_ok, h3, addr_add, Sem.run_pure, Nat.zero_add]
      · rw [mu_eq]; exact .ptr hb
  · rename_i e c len k n hu
    cases hi
    refine W.sat_bind (hsz e) fun z ⟨i, hi, hz⟩ => W.sat_bind aIdx_sat fun j hj => W.sat_bind neE_sat fun _ hne => ?_
    obtain ⟨h1, h2, h3⟩ := hin hj
    subst hz
    · refine W.sat_pure ?_
      cases hx with
      | lstn => exact absurd rfl hne
      | lst vs hb hc hr hn =>
        rename_i cap' a
        obtain ⟨blk, off, spot⟩ := a
        obtain ⟨hro, hsp⟩ := hb hne
        simp only at hro hsp
        subst hsp
        refine ⟨.pointer (some ⟨blk, off + j * i.size, none⟩), fun w => ?_, ?_⟩
        · simp only [Instr.indexAt, asIntOf, Sem.run_bind, Sem.run_pure, Result.andThen_ok, r_underlying hu]
          simp only [h1, h2, and_self, if_true, Sem.run_bind, r_sizeOf hi, Result.andThen_ok, h3, addr_add, Sem.run_pure]
        · rw [mu_eq]; exact .rop vs hro hc hr
  · rename_i len e id off k n hu
    cases hi
    refine W.sat_bind (hsz e) fun z ⟨i, hi, hz⟩ => W.sat_bind aIdx_sat fun j hj => W.sat_pure ?_
    obtain ⟨h1, h2, h3⟩ := hin hj
    subst hz
    cases hx with
    | ptr hb =>
      rename_i b
      refine ⟨.pointer (some ⟨b.1, off + j * i.size, none⟩), fun w => ?_, ?_⟩
      · simp only [Instr.indexAt, asIntOf, Sem.run_bind, Sem.run_pure, Result.andThen_ok, r_underlying hu, Instr.sureAddr]
        simp only [h1, h2, and_self, if_true, Sem.run_bind, r_sizeOf hi, Result.andThen_ok, h3, addr_add, Sem.run_pure]
      · rw [ad_eq, mu_eq]; exact .ptr hb
  · rename_i len e c off k n hu
    cases hi
    refine W.sat_bind (hsz e) fun z ⟨i, hi, hz⟩ => W.sat_bind aIdx_sat fun j hj => W.sat_pure ?_
    obtain ⟨h1, h2, h3⟩ := hin hj
    subst hz
    cases hx with
    | rop vs hb hc hr =>
      rename_i b p
      refine ⟨.pointer (some ⟨b, p + off + j * i.size, none⟩), fun w => ?_, ?_⟩
      · simp only [Instr.indexAt, asIntOf, Sem.run_bind, Sem.run_pure, Result.andThen_ok, r_underlying hu, Instr.sureAddr]
        simp only [h1, h2, and_self, if_true, Sem.run_bind, r_sizeOf hi, Result.andThen_ok, h3, addr_add, Sem.run_pure]
      · rw [ad_eq, mu_eq, Nat.add_assoc]; exact .rop vs hb hc hr
  · exact W.sat_fail

/-! ### slice expressions -/
def selN (sel : Bool) (l h : Nat) : Nat := match sel with | true => l | false => h
/-- a bound: absent, a literal, or told -/
def aBound (hn : Hint) (sel : Bool) (x : Option AV) (dflt : Nat) : W Nat :=
  match x with
  | none => W.pure dflt
  | some (.int _ z) =>
    match hn with
    | .s l h => (W.owe (z = (selN sel l h : Int))).bind fun _ => W.pure (selN sel l h)
    | _ => match z with | .ofNat j => W.pure j | _ => W.fail
  | _ => W.fail
theorem aBound_sat {hn : Hint} {sel : Bool} {x : Option AV} {d : Nat} : (aBound hn sel x d).sat fun j => (x = none ∧ j = d) ∨ ∃ k, x = some (.int k (j : Int)) := by
  unfold aBound
  split
  · exact W.sat_pure (.inl ⟨rfl, rfl⟩)
  · split
    · exact W.sat_bind W.sat_owe fun _ h => W.sat_pure (.inr ⟨_, by rw [h]⟩)
    · split
      · exact W.sat_pure (.inr ⟨_, rfl⟩)
      · exact W.sat_fail
  · exact W.sat_fail

/-- the two bounds: low at most high, high at most the bound -/
def aBounds (hn : Hint) (lo hi : Option AV) (len cap : Nat) : W (Nat × Nat) :=
  (aBound hn false hi len).bind fun h => (aBound hn true lo 0).bind fun l => (W.req hn.sy (l ≤ h ∧ h ≤ cap)).bind fun _ => W.pure (l, h)
/-- how the model's bounds come out, whatever the true capacity -/
theorem aBounds_sat {hn : Hint} {lo hi : Option AV} {lo' hi' : Option Value} {len cap : Nat} (hl : ∀ v, lo = some v → ∃ x, lo' = some x ∧ Rep μ ro w true v x) (hl0 : lo = none → lo' = none)
    (hh : ∀ v, hi = some v → ∃ x, hi' = some x ∧ Rep μ ro w true v x) (hh0 : hi = none → hi' = none) :
    (aBounds hn lo hi len cap).sat fun p => p.1 ≤ p.2 ∧ p.2 ≤ cap ∧ (hi = none → p.2 = len) ∧ (lo = none → p.1 = 0) ∧
      ∀ (b : Bool) (cap' : Nat) w, cap ≤ cap' → (Instr.sliceBounds b len cap' lo' hi' none).run P w = .ok (p.1, p.2, cap') w := by
  refine W.sat_bind aBound_sat fun h hh' => W.sat_bind aBound_sat fun l hl' => W.sat_bind W.sat_req fun _ hle => W.sat_pure ⟨hle.1, hle.2, ?_, ?_, ?_⟩
  · intro e; rcases hh' with h | ⟨k, hk⟩
    · exact h.2
    · rw [e] at hk; cases hk
  · intro e; rcases hl' with h | ⟨k, hk⟩
    · exact h.2
    · rw [e] at hk; cases hk
  · intro b cap' w hc
    have hb : ∀ (k : IntKind) (j y : Nat) (c : BoundsCode) w, j ≤ y → (Instr.sliceBound (.int k (j : Int)) y c).run P w = .ok j w := fun k j y c w hjy => by
      have : (0 : Int) ≤ j ∧ (j : Int) ≤ y := by omega
      simp [Instr.sliceBound, asIntOf, this, Result.andThen]
    have e2 : ∀ w, (match hi' with | some v => Instr.sliceBound v cap' (if b then .sliceAcap else .sliceAlen) | none => pure len : Sem Nat).run P w = .ok h w := fun w => by
      rcases hh' with ⟨h1, h2⟩ | ⟨k, hk⟩
      · rw [hh0 h1]; subst h2; rfl
      · obtain ⟨x, hx, hr⟩ := hh _ hk
        rw [hx]
        cases hr
        exact hb _ _ _ _ _ (by omega)
    have e3 : ∀ w, (match lo' with | some v => Instr.sliceBound v h .sliceB | none => pure 0 : Sem Nat).run P w = .ok l w := fun w => by
      rcases hl' with ⟨h1, h2⟩ | ⟨k, hk⟩
      · rw [hl0 h1]; subst h2; rfl
      · obtain ⟨x, hx, hr⟩ := hl _ hk
        rw [hx]
        cases hr
        exact hb _ _ _ _ _ hle.1
    unfold Instr.sliceBounds
    have e2' := e2 w
    have e3' := e3 w
    cases hi' <;> cases lo' <;> simp [Result.andThen] at e2' e3' ⊢ <;> simp_all [Result.andThen]

def aSliceStr (s : List UInt8) (lo hi : Option AV) (l h : Nat) : List UInt8 :=
  match lo, hi with
  | none, none => s
  | none, some _ => s.take h
  | some _, none => s.drop l
  | some _, some _ => (s.take h).drop l
end Go.Proofs.Ytabjlmlfmafllaa.Av
