/- Lists of operations; fewer facts about a state. -/
import Derived.Test.YtabjlmlfmafllaaAvO
set_option linter.unusedVariables false
set_option linter.unusedSimpArgs false
namespace Go.Proofs.Ytabjlmlfmafllaa.Av
open Go.RowKit

variable {P : Program} {G : Nat → AV} {μ μ' : Nat → Option Loc} {ro ro' : Nat → Prop} {w w' : World}

abbrev CallB := FuncId → List AV → Hp → List CH → W (CO × Hp × List CH)

/-- behind a call -/
def aftCall (s : St) (dst : Option Tmp) (r : CO) (h : Hp) (hs : List CH) : W (AEx × St × List CH) :=
  match r with
  | .ret v => (({ s with hp := h } : St).put dst v).bind fun s1 => W.pure (.normal, s1, hs)
  | .pan v => W.pure (.panic v, { s with hp := h }, hs)

def evStep (P : Program) (G : Nat → AV) (callB : CallB) (ops : Array Oper) (i : Nat) (s : St) (hs : List CH) : W (AEx × St × List CH) :=
  match ops[i]? with
  | none => W.fail
  | some o =>
    (gdVal ops s o (CH.gd hs)).bind fun g =>
    match g.1 with
    | false => (g.2.put o.dst .undef).bind fun s1 => W.pure (.normal, s1, hs.tail)
    | true =>
      (evOp P (CH.hint hs) (opd G g.2) o g.2.hp).bind fun r =>
      match r with
      | .val v h => (({ g.2 with hp := h } : St).put o.dst v).bind fun s1 => W.pure (.normal, s1, hs.tail)
      | .skip h => (({ g.2 with hp := h } : St).put o.dst .undef).bind fun s1 => W.pure (.normal, s1, hs.tail)
      | .call f args =>
        match hs with
        | .ret _ args' r blks :: hs' => (callBy P G f args args' r blks g.2.hp).bind fun x => aftCall g.2 o.dst x.1 x.2 hs'
        | hs => (callB f args g.2.hp hs.tail).bind fun x => aftCall g.2 o.dst x.1 x.2.1 x.2.2
      | .dfr f args => (({ g.2 with df := (f, args) :: g.2.df } : St).put o.dst .undef).bind fun s1 => W.pure (.normal, s1, hs.tail)
      | .pan v => W.pure (.panic v, g.2, hs.tail)

def AEx.here : AEx → Prop
  | .normal | .panic _ => True
  | _ => False

/-- no other temporary turns -/
def PutIn (ops : Array Oper) (i : Nat) (a a' : Act) : Prop := ∀ o, ops[i]? = some o → ∃ x, a'.tmps = (a.put o.dst x).tmps

def StepDoes (P : Program) (G : Nat → AV) (ops : Array Oper) (i : Nat) (s : St) (e : AEx) (s' : St) : Prop :=
  ∀ μ ro a w (Q : Exit → Act → World → Prop) (K : Act → World → Prop), StRel G μ ro w s a →
    (∀ μ' ro' a' w', Up s.hp.nx μ ro w μ' ro' w' → StRel G μ' ro' w' s' a' → (e = .normal → PutIn ops i a a' → K a' w') ∧ ∀ v x, e = .panic v → Rep μ' ro' w' true v x → Q (.panic [⟨x, false, false⟩]) a' w') →
    wpOp P ops Q i K a w

theorem undef_rep {o : Bool} : Rep μ ro w o AV.undef Go.undef := .tup rfl fun i hi => by simp at hi

theorem evStep_sat {callB : CallB} (hcall : ∀ f args h hs, (callB f args h hs).sat fun r => CallDoes P G f args h r.1 r.2.1) {ops : Array Oper} {i : Nat} {s : St} {hs : List CH} :
    (evStep P G callB ops i s hs).sat fun r => StepDoes P G ops i s r.1 r.2.1 ∧ r.1.here := by
  -- what is to be shown, from one start
  intro r ps he hok
  have main : ∀ μ ro a w (Q : Exit → Act → World → Prop) (K : Act → World → Prop), StRel G μ ro w s a → (evStep P G callB ops i s hs).sat fun r =>
      ((∀ μ' ro' a' w', Up s.hp.nx μ ro w μ' ro' w' → StRel G μ' ro' w' r.2.1 a' → (r.1 = .normal → PutIn ops i a a' → K a' w') ∧ ∀ v x, r.1 = .panic v → Rep μ' ro' w' true v x → Q (.panic [⟨x, false, false⟩]) a' w') →
        wpOp P ops Q i K a w) := by
    intro μ ro a w Q K hs0
    unfold evStep
    split
    · exact W.sat_fail
    · rename_i o ho
      have putIn : ∀ x, PutIn ops i a (a.put o.dst x) := fun x o' ho' => by rw [ho] at ho'; cases ho'; exact ⟨x, rfl⟩
      refine W.sat_bind (gdVal_sat hs0) fun g ⟨hst, hhp, hwant⟩ => ?_
      have hwp : ∀ {r : AEx × St × List CH}, g.1 = true → ((∀ μ' ro' a' w', Up s.hp.nx μ ro w μ' ro' w' → StRel G μ' ro' w' r.2.1 a' → (r.1 = .normal → PutIn ops i a a' → K a' w') ∧ ∀ v x, r.1 = .panic v → Rep μ' ro' w' true v x → Q (.panic [⟨x, false, false⟩]) a' w') → o.upon P a K Q ((execOp a.eval o).run P w)) →
          ((∀ μ' ro' a' w', Up s.hp.nx μ ro w μ' ro' w' → StRel G μ' ro' w' r.2.1 a' → (r.1 = .normal → PutIn ops i a a' → K a' w') ∧ ∀ v x, r.1 = .panic v → Rep μ' ro' w' true v x → Q (.panic [⟨x, false, false⟩]) a' w') → wpOp P ops Q i K a w) := fun hg h hpost => by
        unfold wpOp
        rw [ho]
        simp only
        rw [hwant, hg, if_pos rfl]
        exact .inl (h hpost)
      split
      · rename_i hg
        refine W.sat_bind (StRel.put hst undef_rep) fun s1 ⟨hs1, hhp1⟩ => W.sat_pure fun hpost => ?_
        unfold wpOp
        rw [ho]
        simp only
        rw [hwant, hg, if_neg (by simp)]
        exact (hpost μ ro _ w (.refl _ _ _ _) hs1).1 rfl (putIn _)
      · rename_i hg
        refine W.sat_bind (evOp_sat (fun x => opd_rep hst x) hst.hp) fun r hr => ?_
        rw [hhp] at hr
        -- a call's outcome
        have call : ∀ {f : FuncId} {vs : Array Value} {x : CO} {h' : Hp} {hs' : List CH}, (execOp a.eval o).run P w = .ok (.enter f vs) w → Calls P f vs w (CPost s.hp.nx μ ro w x h') →
            (aftCall g.2 o.dst x h' hs').sat fun r => ((∀ μ' ro' a' w', Up s.hp.nx μ ro w μ' ro' w' → StRel G μ' ro' w' r.2.1 a' → (r.1 = .normal → PutIn ops i a a' → K a' w') ∧ ∀ v x, r.1 = .panic v → Rep μ' ro' w' true v x → Q (.panic [⟨x, false, false⟩]) a' w') → wpOp P ops Q i K a w) := by
          intro f vs x h' hs' hrun hc r1 ps1 he1 hok1
          refine hwp hg fun hpost => ?_
          rw [hrun, Oper.upon_enter]
          refine hc.mono ?_
          rintro e w1 ⟨μ1, ro1, hup, hco, hh1⟩
          have hup' : Up g.2.hp.nx μ ro w μ1 ro1 w1 := by rw [hhp]; exact hup
          have hst1 := hst.up hup' hh1
          unfold aftCall at he1
          split at he1
          · rename_i v
            cases e <;> simp only [CoRel] at hco
            rename_i x1
            have := W.sat_bind (StRel.put hst1 hco (dst := o.dst)) (fun s1 hs1 => W.sat_pure (Q := fun r : AEx × St × List CH => r.1 = .normal ∧ StRel G μ1 ro1 w1 r.2.1 (a.put o.dst x1)) ⟨rfl, hs1.1⟩) r1 ps1 he1 hok1
            exact (hpost μ1 ro1 _ w1 hup this.2).1 this.1 (putIn _)
          · rename_i v
            simp only [W.pure, Option.some.injEq, Prod.mk.injEq] at he1
            obtain ⟨rfl, rfl⟩ := he1
            cases e with
            | returned x1 => exact hco.elim
            | outgrown => exact hco.elim
            | panicked chain =>
              rcases chain with _ | ⟨⟨x1, r1, g1⟩, _ | ⟨p2, ps⟩⟩
              · exact hco.elim
              · cases r1 <;> cases g1 <;> first | exact hco.elim | skip
                exact (hpost μ1 ro1 a w1 hup hst1).2 v x1 rfl hco
              · cases r1 <;> cases g1 <;> exact hco.elim
        cases r with
        | val v h' =>
          obtain ⟨v', w1, μ1, h1, h2, h3, h4, h5⟩ := hr
          have hup := Up.of_fr h2 h5
          have hst1 := hst.up (by rw [hhp]; exact hup) h4
          refine W.sat_bind (StRel.put hst1 h3) fun s1 ⟨hs1, _⟩ => W.sat_pure (hwp hg fun hpost => ?_)
          rw [h1, Oper.upon_value]
          exact (hpost μ1 ro _ w1 hup hs1).1 rfl (putIn _)
        | skip h' =>
          obtain ⟨w1, h1, h4, h5⟩ := hr
          have hup := Up.of_fr (.refl s.hp.nx μ) h5
          have hst1 := hst.up (by rw [hhp]; exact hup) h4
          refine W.sat_bind (StRel.put hst1 undef_rep) fun s1 ⟨hs1, _⟩ => W.sat_pure (hwp hg fun hpost => ?_)
          rw [h1, Oper.upon_skip]
          exact (hpost μ ro _ w1 hup hs1).1 rfl (putIn _)
        | call f args =>
          obtain ⟨vs, h1, h2⟩ := hr
          simp only
          split
          · exact W.sat_bind (callBy_sat h2 hst.hp hst.gl) fun x hx => call h1 (by rw [hhp] at hx; exact hx)
          · exact W.sat_bind (hcall f args g.2.hp _) fun x hx => call h1 (by have := hx μ ro w vs h2 hst.hp hst.gl; rw [hhp] at this; exact this)
        | dfr f args =>
          obtain ⟨d, h1, h2⟩ := hr
          have hst1 : StRel G μ ro w ({ g.2 with df := (f, args) :: g.2.df } : St) { a with defers := d :: a.defers } := ⟨hst.tm, hst.nt, hst.hp, hst.gl, ⟨h2, hst.df⟩⟩
          refine W.sat_bind (StRel.put hst1 undef_rep) fun s1 ⟨hs1, _⟩ => W.sat_pure (hwp hg fun hpost => ?_)
          rw [h1, Oper.upon_defer]
          refine (hpost μ ro _ w (.refl _ _ _ _) hs1).1 rfl fun o' ho' => ⟨undef, ?_⟩
          rw [ho] at ho'; cases ho'
          cases o.dst <;> rfl
        | pan v =>
          obtain ⟨v', h1, h2⟩ := hr
          refine W.sat_pure (hwp hg fun hpost => ?_)
          rw [h1, Oper.upon_panic]
          exact (hpost μ ro a w (.refl _ _ _ _) hst).2 v v' rfl h2
  refine ⟨fun μ ro a w Q K hs0 hpost => main μ ro a w Q K hs0 r ps he hok hpost, ?_⟩
  -- it ends so or so
  have put_here : ∀ {s : St} {dst : Option Tmp} {v : AV} {hs : List CH}, ((s.put dst v).bind fun s1 => W.pure (AEx.normal, s1, hs)).sat fun r => r.1.here := fun {s dst v hs} => W.sat_bind (Q := fun _ => True) (fun _ _ _ _ => trivial) fun _ _ => W.sat_pure trivial
  have aft_here : ∀ {s : St} {dst : Option Tmp} {x : CO} {h : Hp} {hs : List CH}, (aftCall s dst x h hs).sat fun r => r.1.here := fun {s dst x h hs} => by
    cases x
    · exact put_here
    · exact W.sat_pure trivial
  have triv : ∀ {α : Type} {m : W α}, m.sat fun _ => True := fun _ _ _ _ => trivial
  have : (evStep P G callB ops i s hs).sat fun r => r.1.here := by
    unfold evStep
    split
    · exact W.sat_fail
    · refine W.sat_bind triv fun g _ => ?_
      split
      · exact put_here
      · refine W.sat_bind triv fun r _ => ?_
        cases r
        · exact put_here
        · exact put_here
        · simp only
          split
          · exact W.sat_bind triv fun _ _ => aft_here
          · exact W.sat_bind triv fun _ _ => aft_here
        · exact put_here
        · exact W.sat_pure trivial
  exact this r ps he hok

/-! ### fewer facts -/
/-- whatever s describes s0 describes, by other numbers from n on; blocks that were named may be read only from here on -/
def Sub (n : Nat) (s s0 : St) : Prop :=
  ∀ (G : Nat → AV) μ ro w a, StRel G μ ro w s a → ∃ (μ0 : Nat → Option Loc) (ro0 : Nat → Prop), agree n μ μ0 ∧ (∀ i l, μ0 i = some l → ∃ j m, μ j = some m ∧ m.1 = l.1) ∧ (∀ b, ro b → ro0 b) ∧
    (∀ b, ro0 b → ro b ∨ ∃ i l, μ i = some l ∧ l.1 = b) ∧ StRel G μ0 ro0 w s0 a

theorem Sub.refl {n : Nat} {s : St} : Sub n s s := fun G μ ro w a h => ⟨μ, ro, .refl _ _, fun i l h => ⟨i, l, h, rfl⟩, fun _ h => h, fun _ h => .inl h, h⟩
theorem Sub.trans {n : Nat} {s s1 s2 : St} (h : Sub n s s1) (k : Sub n s1 s2) : Sub n s s2 := fun G μ ro w a hs => by
  obtain ⟨μ1, ro1, h1, h2, h3, h4, h5⟩ := h G μ ro w a hs
  obtain ⟨μ2, ro2, k1, k2, k3, k4, k5⟩ := k G μ1 ro1 w a h5
  refine ⟨μ2, ro2, h1.trans k1, fun i l hi => ?_, fun b hb => k3 b (h3 b hb), fun b hb => ?_, k5⟩
  · obtain ⟨j, m, hj, e⟩ := k2 i l hi
    obtain ⟨j', m', hj', e'⟩ := h2 j m hj
    exact ⟨j', m', hj', e'.trans e⟩
  · rcases k4 b hb with h | ⟨i, l, hi, e⟩
    · exact h4 b h
    · obtain ⟨j', m', hj', e'⟩ := h2 i l hi
      exact .inr ⟨j', m', hj', e'.trans e⟩

theorem Does.pre {n : Nat} {c : Code} {s s0 s' : St} {e : AEx} (hsub : Sub n s s0) (h : Does P G n c s0 e s') : Does P G n c s e s' := fun μ ro a w hst => by
  obtain ⟨μ0, ro0, h1, h2, h4, h5, h3⟩ := hsub G μ ro w a hst
  refine wp_mono (h μ0 ro0 a w h3) fun e' a' w' ⟨μ', ro', k1, k2, k3⟩ => ⟨μ', ro', ⟨h1.trans k1.ag, fun b hb => k1.up b (h4 b hb), fun b hb => ?_, (k1.fr.weaken h4).pre h2⟩, k2, k3⟩
  rcases k1.nw b hb with h | h | ⟨i, l, q1, q2⟩
  · exact (h5 b h).imp_right .inr
  · exact .inr (.inl h)
  · obtain ⟨j, m, q3, q4⟩ := h2 i l q1
    exact .inr (.inr ⟨j, m, q3, q4.trans q2⟩)
theorem Up.subr {n : Nat} {μ0 : Nat → Option Loc} {ro0 : Nat → Prop} (k1 : Up n μ ro w μ' ro' w') (h1 : agree n μ' μ0) (h2 : ∀ i l, μ0 i = some l → ∃ j m, μ' j = some m ∧ m.1 = l.1) (h4 : ∀ b, ro' b → ro0 b)
    (h5 : ∀ b, ro0 b → ro' b ∨ ∃ i l, μ' i = some l ∧ l.1 = b) : Up n μ ro w μ0 ro0 w' := by
  refine ⟨k1.ag.trans h1, fun b hb => h4 b (k1.up b hb), fun b hb => ?_, ⟨k1.fr.os, k1.fr.tape, k1.fr.output, k1.fr.size, k1.fr.block, k1.fr.rest, fun i l hi => ?_⟩⟩
  · rcases h5 b hb with h | ⟨i, l, hi, e⟩
    · exact k1.nw b h
    · rcases k1.fr.new i l hi with ⟨j, m, hj, hm⟩ | hl
      · exact .inr (.inr ⟨j, m, hj, hm.trans e⟩)
      · exact .inr (.inl (e ▸ hl))
  · obtain ⟨j, m, hj, hm⟩ := h2 i l hi
    rcases k1.fr.new j m hj with ⟨j', m', hj', hm'⟩ | hl
    · exact .inl ⟨j', m', hj', hm'.trans hm⟩
    · exact .inr (by omega)
theorem Does.post {n : Nat} {c : Code} {s s1 s' : St} {e : AEx} (he : ∀ v, e ≠ .panic v) (h : Does P G n c s e s1) (hsub : Sub n s1 s') : Does P G n c s e s' := fun μ ro a w hst => by
  refine wp_mono (h μ ro a w hst) fun e' a' w' ⟨μ', ro', k1, k2, k3⟩ => ?_
  obtain ⟨μ0, ro0, h1, h2, h4, h5, h3⟩ := hsub G μ' ro' w' a' k3
  refine ⟨μ0, ro0, k1.subr h1 h2 h4 h5, ?_, h3⟩
  cases e with
  | panic v => exact absurd rfl (he v)
  | _ => cases e' <;> first | exact k2 | exact k2.elim

end Go.Proofs.Ytabjlmlfmafllaa.Av
