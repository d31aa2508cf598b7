/- States; what a piece of code does to a state. -/
import Derived.Test.YtabjlmlfmafllaaAvM
import Derived.LoopN
import Derived.Scope
set_option linter.unusedVariables false
set_option linter.unusedSimpArgs false
namespace Go.Proofs.Ytabjlmlfmafllaa.Av
open Go.RowKit

structure St where
  tm : Tr AV
  nt : Nat
  hp : Hp
  df : List (FuncId × List AV)

/-- how a piece of code ends -/
inductive AEx where
  | normal
  | exit (id : Nat)
  | ret
  | panic (v : AV)

def AV.undef : AV := .tup []
def opd (G : Nat → AV) (s : St) : Operand → AV
  | .tmp t => match s.tm.get t with | some v => v | none => .any
  | .const v => cst v
  | .global g => G g
  | .func f => .fn (.func f) [] []

variable {P : Program} {G : Nat → AV} {μ μ' : Nat → Option Loc} {ro ro' : Nat → Prop} {w w' : World}

/-- what is said of the variables; a whole one is as long as it is said -/
def GlRel (G : Nat → AV) (μ : Nat → Option Loc) (ro : Nat → Prop) (w : World) : Prop :=
  ∀ g, Rep μ ro w false (G g) (.pointer (some ⟨g, 0, none⟩)) ∧ ∀ c, G g = .rop c 0 → ro g ∧ ∃ cs e l, w.heap[g]? = some (.cells cs e l) ∧ cs.size = c.length
def DfsRel (μ : Nat → Option Loc) (ro : Nat → Prop) (w : World) : List (FuncId × List AV) → List Deferred → Prop
  | [], [] => True
  | (f, args) :: l, d :: ds => DfrRel μ ro w f args d ∧ DfsRel μ ro w l ds
  | _, _ => False

structure StRel (G : Nat → AV) (μ : Nat → Option Loc) (ro : Nat → Prop) (w : World) (s : St) (a : Act) : Prop where
  tm : ∀ t v, s.tm.get t = some v → Rep μ ro w true v (a.tmps.getD t undef)
  nt : a.tmps.size = s.nt
  hp : HpRel μ ro s.hp w
  gl : GlRel G μ ro w
  df : DfsRel μ ro w s.df a.defers

theorem GlRel.mono (h : GlRel G μ ro w) (hμ : ∀ i b, μ i = some b → μ' i = some b) (hro : ∀ b, ro b → ro' b) (hw : ∀ b, ro b → w'.heap[b]? = w.heap[b]?) : GlRel G μ' ro' w' := fun g =>
  ⟨(h g).1.mono hμ hro hw, fun c hc => by
    obtain ⟨h1, cs, e, l, h2, h3⟩ := (h g).2 c hc
    exact ⟨hro _ h1, cs, e, l, by rw [hw _ h1]; exact h2, h3⟩⟩
theorem DfsRel.mono : ∀ {l : List (FuncId × List AV)} {ds : List Deferred}, DfsRel μ ro w l ds → (∀ i b, μ i = some b → μ' i = some b) → (∀ b, ro b → ro' b) → (∀ b, ro b → w'.heap[b]? = w.heap[b]?) → DfsRel μ' ro' w' l ds
  | [], [], _, _, _, _ => trivial
  | (f, args) :: l, d :: ds, ⟨⟨cap, vs, h1, h2⟩, h3⟩, hμ, hro, hw => ⟨⟨cap, vs, h1, h2.mono hμ hro hw⟩, h3.mono hμ hro hw⟩
  | [], _ :: _, h, _, _, _ => h.elim
  | _ :: _, [], h, _, _, _ => h.elim

theorem opd_rep {s : St} {a : Act} (h : StRel G μ ro w s a) (x : Operand) : Rep μ ro w true (opd G s x) (a.eval x) := by
  cases x with
  | tmp t =>
    simp only [opd, Act.eval]
    cases ht : s.tm.get t with
    | none => exact .any
    | some v => exact h.tm t v ht
  | const v => exact cst_rep v
  | global g => exact (h.gl g).1.up
  | func f => exact .fn rfl (fun i hi => by simp at hi) rfl (fun i hi => by simp at hi)

/-- what an end has to do with the model's -/
def ExRel (μ : Nat → Option Loc) (ro : Nat → Prop) (w : World) : AEx → Exit → Prop
  | .normal, .normal => True
  | .exit i, .exit j => i = j
  | .ret, .ret => True
  | .panic v, .panic [⟨x, false, false⟩] => Rep μ ro w true v x
  | _, _ => False

/-- how what is known goes on -/
structure Up (n : Nat) (μ : Nat → Option Loc) (ro : Nat → Prop) (w : World) (μ' : Nat → Option Loc) (ro' : Nat → Prop) (w' : World) : Prop where
  ag : agree n μ μ'
  up : ∀ b, ro b → ro' b
  nw : ∀ b, ro' b → ro b ∨ w.heap.size ≤ b ∨ ∃ i l, μ i = some l ∧ l.1 = b
  fr : Fr μ ro w μ' w'
theorem Up.refl (n : Nat) (μ : Nat → Option Loc) (ro : Nat → Prop) (w : World) : Up n μ ro w μ ro w := ⟨.refl _ _, fun _ h => h, fun _ h => .inl h, .refl _ _ _⟩
theorem Up.trans {n : Nat} {μ'' : Nat → Option Loc} {ro'' : Nat → Prop} {w'' : World} (h : Up n μ ro w μ' ro' w') (k : Up n μ' ro' w' μ'' ro'' w'') : Up n μ ro w μ'' ro'' w'' :=
  ⟨h.ag.trans k.ag, fun b hb => k.up b (h.up b hb), fun b hb => by
    rcases k.nw b hb with h1 | h1 | ⟨i, l, h1, h2⟩
    · exact h.nw b h1
    · exact .inr (.inl (Nat.le_trans h.fr.size h1))
    · rcases h.fr.new i l h1 with ⟨j, m, h3, h4⟩ | h3
      · exact .inr (.inr ⟨j, m, h3, h4.trans h2⟩)
      · exact .inr (.inl (h2 ▸ h3)), h.fr.trans k.fr h.up⟩
theorem Up.mono {n m : Nat} (h : Up n μ ro w μ' ro' w') (hm : m ≤ n) : Up m μ ro w μ' ro' w' := ⟨h.ag.mono hm, h.up, h.nw, h.fr⟩
theorem Up.of_fr {n : Nat} (h : agree n μ μ') (k : Fr μ ro w μ' w') : Up n μ ro w μ' ro w' := ⟨h, fun _ h => h, fun _ h => .inl h, k⟩

/-- the end of a piece of code, as said of the state before -/
def Post (n : Nat) (G : Nat → AV) (μ : Nat → Option Loc) (ro : Nat → Prop) (w : World) (e : AEx) (s' : St) (e' : Exit) (a' : Act) (w' : World) : Prop :=
  ∃ μ' ro', Up n μ ro w μ' ro' w' ∧ ExRel μ' ro' w' e e' ∧ StRel G μ' ro' w' s' a'

theorem Post.noGoto {n : Nat} {e : AEx} {s' : St} {l : Nat} {a' : Act} : ¬ Post n G μ ro w e s' (.goto l) a' w' := by
  rintro ⟨_, _, _, h, _⟩; cases e <;> exact h
theorem Post.noOut {n : Nat} {e : AEx} {s' : St} {a' : Act} : ¬ Post n G μ ro w e s' .outgrown a' w' := by
  rintro ⟨_, _, _, h, _⟩; cases e <;> exact h

theorem Post.trans {n : Nat} {e : AEx} {s : St} {ex : Exit} {a : Act} {w1 : World} {μ1 : Nat → Option Loc} {ro1 : Nat → Prop} (h1 : Up n μ ro w μ1 ro1 w1)
    (k : Post n G μ1 ro1 w1 e s ex a w') : Post n G μ ro w e s ex a w' :=
  let ⟨μ', ro', k1, k2, k3⟩ := k
  ⟨μ', ro', h1.trans k1, k2, k3⟩

/-- FROM EVERY WORLD THAT THE STATE s DESCRIBES THE CODE c ENDS BY e IN A WORLD THAT s' DESCRIBES; the owned blocks below n keep their numbers -/
def Does (P : Program) (G : Nat → AV) (n : Nat) (c : Code) (s : St) (e : AEx) (s' : St) : Prop :=
  ∀ μ ro a w, StRel G μ ro w s a → c.wp P (Post n G μ ro w e s') a w

theorem Does.skip {n : Nat} {s : St} : Does P G n .skip s .normal s := fun μ ro a w h => wp_skip ⟨μ, ro, .refl _ _ _ _, trivial, h⟩
theorem Does.exit {n : Nat} {s : St} {id : Nat} : Does P G n (.exit id) s (.exit id) s := fun μ ro a w h => wp_exit ⟨μ, ro, .refl _ _ _ _, rfl, h⟩
theorem Does.ret {n : Nat} {s : St} : Does P G n .ret s .ret s := fun μ ro a w h => wp_ret ⟨μ, ro, .refl _ _ _ _, trivial, h⟩
theorem Does.label {n : Nat} {s : St} {l : Nat} : Does P G n (.label l) s .normal s := fun μ ro a w h => wp_label ⟨μ, ro, .refl _ _ _ _, trivial, h⟩
theorem Does.seq {n : Nat} {c d : Code} {s s1 s' : St} {e : AEx} (h : Does P G n c s .normal s1) (k : Does P G n d s1 e s') : Does P G n (.seq c d) s e s' := fun μ ro a w hs =>
  wp_seq (wp_mono (h μ ro a w hs) fun e' a1 w1 hp => by
    obtain ⟨μ1, ro1, h1, h3, h4⟩ := hp
    cases e' <;> simp only [ExRel] at h3
    exact wp_mono (k μ1 ro1 a1 w1 h4) fun e'' a2 w2 hq => Post.trans h1 hq)
theorem Post.other {n : Nat} {e : AEx} {s' : St} {e' : Exit} {a' : Act} {K : Act → World → Prop} (he : e ≠ .normal) (h : Post n G μ ro w e s' e' a' w') : Exit.then K (Post n G μ ro w e s') e' a' w' := by
  obtain ⟨μ1, ro1, h1, h3, h4⟩ := h
  cases e' <;> first
    | exact ⟨μ1, ro1, h1, h3, h4⟩
    | (cases e <;> simp only [ExRel] at h3; exact absurd rfl he)
theorem Does.seq_out {n : Nat} {c d : Code} {s s' : St} {e : AEx} (he : e ≠ .normal) (h : Does P G n c s e s') : Does P G n (.seq c d) s e s' := fun μ ro a w hs =>
  wp_seq (wp_mono (h μ ro a w hs) fun e' a1 w1 hp => Post.other he hp)
theorem Does.cond {n : Nat} {c : Operand} {x y : Code} {s s' : St} {e : AEx} {t : Bool} (hc : opd G s c = .bool t) (h : Does P G n (if t then x else y) s e s') : Does P G n (.cond c x y) s e s' := fun μ ro a w hs => by
  have := opd_rep hs c
  rw [hc] at this
  cases hv : a.eval c <;> rw [hv] at this <;> cases this
  exact wp_cond hv (h μ ro a w hs)
/-- the end of a block -/
def AEx.block (id : Nat) : AEx → AEx
  | .exit i => bif Nat.beq i id then .normal else .exit i
  | e => e
theorem Does.block {n id : Nat} {c : Code} {s s' : St} {e : AEx} (h : Does P G n c s e s') : Does P G n (.block id c) s (e.block id) s' := fun μ ro a w hs =>
  wp_block (wp_mono (h μ ro a w hs) fun e' a1 w1 hp => by
    obtain ⟨μ1, ro1, h1, h3, h4⟩ := hp
    cases e <;> cases e' <;> simp only [ExRel] at h3 <;> first | exact h3.elim | skip
    · exact ⟨μ1, ro1, h1, trivial, h4⟩
    · rename_i i j
      subst h3
      simp only [Exit.inBlock, AEx.block]
      by_cases hi : i = id
      · subst hi
        simp only [if_true, Nat.beq_refl, cond_true]
        exact ⟨μ1, ro1, h1, trivial, h4⟩
      · rw [if_neg hi]
        have : Nat.beq i id = false := by
          cases hh : Nat.beq i id
          · rfl
          · exact absurd (Nat.eq_of_beq_eq_true hh) hi
        simp only [this, cond_false]
        exact ⟨μ1, ro1, h1, rfl, h4⟩
    · exact ⟨μ1, ro1, h1, trivial, h4⟩
    · exact ⟨μ1, ro1, h1, h3, h4⟩)
theorem Does.scope {n : Nat} {c : Code} {s s' : St} {e : AEx} (h : Does P G n c s e s') : Does P G n (.scope c) s e s' := fun μ ro a w hs =>
  wp_scope_straight (wp_mono (h μ ro a w hs) fun e' a1 w1 hp => by
    cases e' <;> first | exact hp | exact absurd hp Post.noGoto)

theorem exitTo_len : ∀ (id : Nat) (k k' : List Item), exitTo id k = some k' → k'.length ≤ k.length
  | id, [], k', h => by simp [exitTo] at h
  | id, x :: k, k', h => by
    have ih := exitTo_len id k k'
    cases x <;> simp only [exitTo] at h <;> first
      | (have := ih h; simp only [List.length_cons]; omega)
      | skip
    split at h
    · simp only [Option.some.injEq] at h; subst h; simp
    · have := ih h; simp only [List.length_cons]; omega

/-- one round of a loop, and the loop again -/
theorem wp_loop_unroll {Q : Exit → Act → World → Prop} {c : Code} {a : Act} {w : World} (hg : ∀ l a w, ¬ Q (.goto l) a w) (ho : ∀ a w, ¬ Q .outgrown a w)
    (h : c.wp P (Exit.then (fun a' w' => (Code.loop c).wp P Q a' w') Q) a w) : (Code.loop c).wp P Q a w := by
  intro b k cs
  obtain ⟨e, a1, w1, hq, harr⟩ := h b (.inLoop c :: k) cs
  have tail : ∀ {m m1 mX : Machine}, step P m = .next m1 → m ≠ mX → Steps P m mX → Steps P m1 mX := by
    rintro m m1 mX hs hne ⟨n, hn⟩
    cases n with
    | zero => simp [runN] at hn; exact absurd hn hne
    | succ n => simp only [runN, hs] at hn; exact ⟨n, hn⟩
  cases e with
  | normal =>
    obtain ⟨e2, a2, w2, hq2, harr2⟩ := hq b k cs
    have hst : step P (lone (b.at a1 (.code (.loop c) :: k)) cs w1) = _ := step_loop
    refine ⟨e2, a2, w2, hq2, .of_steps (.head step_loop (Steps.trans harr (.one step_inLoop))) ?_⟩
    have len : ∀ {k' : List Item} {a3 : Act} {w3 : World}, k'.length ≤ k.length → lone (b.at a1 (.code (.loop c) :: k)) cs w1 ≠ lone (b.at a3 k') cs w3 := fun hk e => by
      have := congrArg (fun m : Machine => (m.gs.map fun g => g.frame.todo.length)) e
      simp [lone, Frame.at] at this
      omega
    have mode : ∀ {fr : Frame} {w3 : World}, fr.mode ≠ .run → lone (b.at a1 (.code (.loop c) :: k)) cs w1 ≠ lone fr cs w3 := fun hk e => by
      have := congrArg (fun m : Machine => (m.gs.map fun g => g.frame.mode)) e
      simp [lone, Frame.at] at this
      exact hk this.symm
    cases e2 with
    | normal => exact tail hst (len (Nat.le_refl _)) harr2
    | exit id => exact fun k' hk => tail hst (len (exitTo_len _ _ _ hk)) (harr2 k' hk)
    | goto l => exact absurd hq2 (hg _ _ _)
    | ret =>
      obtain ⟨todo, hs⟩ := harr2
      exact ⟨todo, tail hst (mode (by simp)) hs⟩
    | panic ch =>
      obtain ⟨todo, hs⟩ := harr2
      exact ⟨todo, tail hst (mode (by simp)) hs⟩
    | outgrown => exact absurd hq2 (ho _ _)
  | exit id => exact ⟨_, a1, w1, hq, .of_steps (.one step_loop) (.pass (x := .inLoop c) rfl (fun _ _ => .inl (by simp)) harr)⟩
  | goto l => exact absurd hq (hg _ _ _)
  | ret => exact ⟨_, a1, w1, hq, .of_steps (.one step_loop) (.pass (x := .inLoop c) rfl (fun _ _ => .inl (by simp)) harr)⟩
  | panic ch => exact ⟨_, a1, w1, hq, .of_steps (.one step_loop) (.pass (x := .inLoop c) rfl (fun _ _ => .inl (by simp)) harr)⟩
  | outgrown => exact absurd hq (ho _ _)

theorem Does.loop {n : Nat} {c : Code} {s s1 s' : St} {e : AEx} (h : Does P G n c s .normal s1) (k : Does P G n (.loop c) s1 e s') : Does P G n (.loop c) s e s' := fun μ ro a w hs =>
  wp_loop_unroll (fun _ _ _ => Post.noGoto) (fun _ _ => Post.noOut) (wp_mono (h μ ro a w hs) fun e' a1 w1 hp => by
    obtain ⟨μ1, ro1, h1, h3, h4⟩ := hp
    cases e' <;> simp only [ExRel] at h3
    exact wp_mono (k μ1 ro1 a1 w1 h4) fun e'' a2 w2 hq => Post.trans h1 hq)
theorem Does.loop_out {n : Nat} {c : Code} {s s' : St} {e : AEx} (he : e ≠ .normal) (h : Does P G n c s e s') : Does P G n (.loop c) s e s' := fun μ ro a w hs =>
  wp_loop_unroll (fun _ _ _ => Post.noGoto) (fun _ _ => Post.noOut) (wp_mono (h μ ro a w hs) fun e' a1 w1 hp => Post.other he hp)

end Go.Proofs.Ytabjlmlfmafllaa.Av
