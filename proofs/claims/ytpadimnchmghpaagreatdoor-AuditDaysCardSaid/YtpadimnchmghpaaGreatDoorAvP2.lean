import Derived.Test.YtpadimnchmghpaaGreatDoorAvM
import Derived.LoopN
import Derived.Scope
open Prod (fst)
open Int (tdiv tmod)
set_option linter.unusedVariables false
set_option linter.unusedSimpArgs false
namespace Go.Proofs.YtpadimnchmghpaaGreatDoor.Av
noncomputable section
open Go.RowKit
structure St where
 tm : Tr AV
 nt : Nat
 hp : Hp
 df : List (FuncId × List AV)
inductive AEx where
 | normal
 | exit (id : Nat)
 | ret
 | panic (v : AV)
def AV.undef : AV := .tup []
def opd (G : Nat → AV) (s : St) : Operand → AV
 | .tmp t => match s.tm.get t with | some v => v | none => .any
 | .const v => cst v
 | .global g => G g
 | .func f => .fn (.func f) [] []
variable {P : Program} {G : Nat → AV} {μ μ' : Nat → Option Loc} {ro ro' : Nat → Prop} {w w' : World}
def GlRel (G : Nat → AV) (μ : Nat → Option Loc) (ro : Nat → Prop) (w : World) : Prop :=
 ∀ g, Rep μ ro w false (G g) (.pointer (some ⟨g, 0, none⟩)) ∧ ∀ c, G g = .rop c 0 → ro g ∧ ∃ cs e l, w.heap[g]? = some (.cells cs e l) ∧ cs.size = c.length
def DfsRel (μ : Nat → Option Loc) (ro : Nat → Prop) (w : World) : List (FuncId × List AV) → List Deferred → Prop
 | [], [] => True
 | (f, args) :: l, d :: ds => DfrRel μ ro w f args d ∧ DfsRel μ ro w l ds
 | _, _ => False
structure StRel (G : Nat → AV) (μ : Nat → Option Loc) (ro : Nat → Prop) (w : World) (s : St) (a : Act) : Prop where
 tm : ∀ t v, s.tm.get t = some v → Rep μ ro w true v (a.tmps.getD t undef)
 nt : a.tmps.size = s.nt
 hp : HpRel μ ro s.hp w
 gl : GlRel G μ ro w
 df : DfsRel μ ro w s.df a.defers
theorem GlRel.mono (h : GlRel G μ ro w) (hμ : ∀ i b, μ i = some b → μ' i = some b) (hro : ∀ b, ro b → ro' b) (hw : ∀ b, ro b → w'.heap[b]? = w.heap[b]?) : GlRel G μ' ro' w' := fun g =>
 ⟨(h g).1.mono hμ hro hw, fun c hc => by
  obtain ⟨h1, cs, e, l, h2, h3⟩ := (h g).2 c hc
  exact ⟨hro _ h1, cs, e, l, by rw [hw _ h1]; exact h2, h3⟩⟩
theorem DfsRel.mono : ∀ {l : List (FuncId × List AV)} {ds : List Deferred}, DfsRel μ ro w l ds → (∀ i b, μ i = some b → μ' i = some b) → (∀ b, ro b → ro' b) → (∀ b, ro b → w'.heap[b]? = w.heap[b]?) → DfsRel μ' ro' w' l ds
 | [], [], _, _, _, _ => trivial
 | (f, args) :: l, d :: ds, ⟨⟨cap, vs, h1, h2⟩, h3⟩, hμ, hro, hw => ⟨⟨cap, vs, h1, h2.mono hμ hro hw⟩, h3.mono hμ hro hw⟩
 | [], _ :: _, h, _, _, _ => h.elim
 | _ :: _, [], h, _, _, _ => h.elim
theorem opd_rep {s : St} {a : Act} (h : StRel G μ ro w s a) (x : Operand) : Rep μ ro w true (opd G s x) (a.eval x) := by
 cases x with
 | tmp t =>
  simp only [opd, Act.eval]
  cases ht : s.tm.get t with
  | none => exact .any
  | some v => exact h.tm t v ht
 | const v => exact cst_rep v
 | global g => exact (h.gl g).1.up
 | func f => exact .fn rfl (fun i hi => by simp at hi) rfl (fun i hi => by simp at hi)
def ExRel (μ : Nat → Option Loc) (ro : Nat → Prop) (w : World) : AEx → Exit → Prop
 | .normal, .normal => True
 | .exit i, .exit j => i = j
 | .ret, .ret => True
 | .panic v, .panic [⟨x, false, false⟩] => Rep μ ro w true v x
 | _, _ => False
structure Up (n : Nat) (μ : Nat → Option Loc) (ro : Nat → Prop) (w : World) (μ' : Nat → Option Loc) (ro' : Nat → Prop) (w' : World) : Prop where
 ag : agree n μ μ'
 up : ∀ b, ro b → ro' b
 nw : ∀ b, ro' b → ro b ∨ w.heap.size ≤ b ∨ ∃ i l, μ i = some l ∧ l.1 = b
 fr : Fr μ ro w μ' w'
theorem Up.refl (n : Nat) (μ : Nat → Option Loc) (ro : Nat → Prop) (w : World) : Up n μ ro w μ ro w := ⟨.refl _ _, fun _ h => h, fun _ h => .inl h, .refl _ _ _⟩
theorem Up.trans {n : Nat} {μ'' : Nat → Option Loc} {ro'' : Nat → Prop} {w'' : World} (h : Up n μ ro w μ' ro' w') (k : Up n μ' ro' w' μ'' ro'' w'') : Up n μ ro w μ'' ro'' w'' :=
 ⟨h.ag.trans k.ag, fun b hb => k.up b (h.up b hb), fun b hb => by
  rcases k.nw b hb with h1 | h1 | ⟨i, l, h1, h2⟩
  ·exact h.nw b h1
  ·exact .inr (.inl (Nat.le_trans h.fr.size h1))
  ·rcases h.fr.new i l h1 with ⟨j, m, h3, h4⟩ | h3
   ·exact .inr (.inr ⟨j, m, h3, h4.trans h2⟩)
   ·exact .inr (.inl (h2 ▸ h3)), h.fr.trans k.fr h.up⟩
theorem Up.mono {n m : Nat} (h : Up n μ ro w μ' ro' w') (hm : m ≤ n) : Up m μ ro w μ' ro' w' := ⟨h.ag.mono hm, h.up, h.nw, h.fr⟩
theorem Up.of_fr {n : Nat} (h : agree n μ μ') (k : Fr μ ro w μ' w') : Up n μ ro w μ' ro w' := ⟨h, fun _ h => h, fun _ h => .inl h, k⟩
def Post (n : Nat) (G : Nat → AV) (μ : Nat → Option Loc) (ro : Nat → Prop) (w : World) (e : AEx) (s' : St) (e' : Exit) (a' : Act) (w' : World) : Prop :=
 ∃ μ' ro', Up n μ ro w μ' ro' w' ∧ ExRel μ' ro' w' e e' ∧ StRel G μ' ro' w' s' a'
theorem Post.noGoto {n : Nat} {e : AEx} {s' : St} {l : Nat} {a' : Act} : ¬ Post n G μ ro w e s' (.goto l) a' w' := by
 rintro ⟨_, _, _, h, _⟩; cases e <;> exact h
theorem Post.noOut {n : Nat} {e : AEx} {s' : St} {a' : Act} : ¬ Post n G μ ro w e s' .outgrown a' w' := by
 rintro ⟨_, _, _, h, _⟩; cases e <;> exact h
theorem Post.trans {n : Nat} {e : AEx} {s : St} {ex : Exit} {a : Act} {w1 : World} {μ1 : Nat → Option Loc} {ro1 : Nat → Prop} (h1 : Up n μ ro w μ1 ro1 w1)
  (k : Post n G μ1 ro1 w1 e s ex a w') : Post n G μ ro w e s ex a w' :=
 let ⟨μ', ro', k1, k2, k3⟩ := k
 ⟨μ', ro', h1.trans k1, k2, k3⟩
def Does (P : Program) (G : Nat → AV) (n : Nat) (c : Code) (s : St) (e : AEx) (s' : St) : Prop :=
 ∀ μ ro a w, StRel G μ ro w s a → c.wp P (Post n G μ ro w e s') a w
theorem Does.skip {n : Nat} {s : St} : Does P G n .skip s .normal s := fun μ ro a w h => wp_skip ⟨μ, ro, .refl _ _ _ _, trivial, h⟩
theorem Does.exit {n : Nat} {s : St} {id : Nat} : Does P G n (.exit id) s (.exit id) s := fun μ ro a w h => wp_exit ⟨μ, ro, .refl _ _ _ _, rfl, h⟩
theorem Does.ret {n : Nat} {s : St} : Does P G n .ret s .ret s := fun μ ro a w h => wp_ret ⟨μ, ro, .refl _ _ _ _, trivial, h⟩
theorem Does.label {n : Nat} {s : St} {l : Nat} : Does P G n (.label l) s .normal s := fun μ ro a w h => wp_label ⟨μ, ro, .refl _ _ _ _, trivial, h⟩
theorem Does.seq {n : Nat} {c d : Code} {s s1 s' : St} {e : AEx} (h : Does P G n c s .normal s1) (k : Does P G n d s1 e s') : Does P G n (.seq c d) s e s' := fun μ ro a w hs =>
 wp_seq (wp_mono (h μ ro a w hs) fun e' a1 w1 hp => by
  obtain ⟨μ1, ro1, h1, h3, h4⟩ := hp
  cases e' <;> simp only [ExRel] at h3
  exact wp_mono (k μ1 ro1 a1 w1 h4) fun e'' a2 w2 hq => Post.trans h1 hq)
theorem Post.other {n : Nat} {e : AEx} {s' : St} {e' : Exit} {a' : Act} {K : Act → World → Prop} (he : e ≠ .normal) (h : Post n G μ ro w e s' e' a' w') : Exit.then K (Post n G μ ro w e s') e' a' w' := by
 obtain ⟨μ1, ro1, h1, h3, h4⟩ := h
 cases e' <;> first
  | exact ⟨μ1, ro1, h1, h3, h4⟩
  | (cases e <;> simp only [ExRel] at h3; exact absurd rfl he)
theorem Does.seq_out {n : Nat} {c d : Code} {s s' : St} {e : AEx} (he : e ≠ .normal) (h : Does P G n c s e s') : Does P G n (.seq c d) s e s' := fun μ ro a w hs =>
 wp_seq (wp_mono (h μ ro a w hs) fun e' a1 w1 hp => Post.other he hp)
theorem Does.cond {n : Nat} {c : Operand} {x y : Code} {s s' : St} {e : AEx} {t : Bool} (hc : opd G s c = .bool t) (h : Does P G n (if t then x else y) s e s') : Does P G n (.cond c x y) s e s' := fun μ ro a w hs => by
 have := opd_rep hs c
 rw [hc] at this
 cases hv : a.eval c <;> rw [hv] at this <;> cases this
 exact wp_cond hv (h μ ro a w hs)
def AEx.block (id : Nat) : AEx → AEx
 | .exit i => bif Nat.beq i id then .normal else .exit i
 | e => e
theorem Does.block {n id : Nat} {c : Code} {s s' : St} {e : AEx} (h : Does P G n c s e s') : Does P G n (.block id c) s (e.block id) s' := fun μ ro a w hs =>
 wp_block (wp_mono (h μ ro a w hs) fun e' a1 w1 hp => by
  obtain ⟨μ1, ro1, h1, h3, h4⟩ := hp
  cases e <;> cases e' <;> simp only [ExRel] at h3 <;> first | exact h3.elim | skip
  ·exact ⟨μ1, ro1, h1, trivial, h4⟩
  ·rename_i i j
   subst h3
   simp only [Exit.inBlock, AEx.block]
   by_cases hi : i = id
   ·subst hi
    simp only [if_true, Nat.beq_refl, cond_true]
    exact ⟨μ1, ro1, h1, trivial, h4⟩
   ·rw [if_neg hi]
    have : Nat.beq i id = false := by
     cases hh : Nat.beq i id
     ·rfl
     ·exact absurd (Nat.eq_of_beq_eq_true hh) hi
    simp only [this, cond_false]
    exact ⟨μ1, ro1, h1, rfl, h4⟩
  ·exact ⟨μ1, ro1, h1, trivial, h4⟩
  ·exact ⟨μ1, ro1, h1, h3, h4⟩)
theorem Does.scope {n : Nat} {c : Code} {s s' : St} {e : AEx} (h : Does P G n c s e s') : Does P G n (.scope c) s e s' := fun μ ro a w hs =>
 wp_scope_straight (wp_mono (h μ ro a w hs) fun e' a1 w1 hp => by
  cases e' <;> first | exact hp | exact absurd hp Post.noGoto)
theorem exitTo_len : ∀ (id : Nat) (k k' : List Item), exitTo id k = some k' → k'.length ≤ k.length
 | id, [], k', h => by simp [exitTo] at h
 | id, x :: k, k', h => by
  have ih := exitTo_len id k k'
  cases x <;> simp only [exitTo] at h <;> first
   | (have := ih h; simp only [List.length_cons]; omega)
   | skip
  split at h
  ·simp only [sJ] at h; subst h; simp
  ·have := ih h; simp only [List.length_cons]; omega
theorem wp_loop_unroll {Q : Exit → Act → World → Prop} {c : Code} {a : Act} {w : World} (hg : ∀ l a w, ¬ Q (.goto l) a w) (ho : ∀ a w, ¬ Q .outgrown a w)
  (h : c.wp P (Exit.then (fun a' w' => (Code.loop c).wp P Q a' w') Q) a w) : (Code.loop c).wp P Q a w := by
 intro b k cs
 obtain ⟨e, a1, w1, hq, harr⟩ := h b (.inLoop c :: k) cs
 have tail : ∀ {m m1 mX : Machine}, step P m = .next m1 → m ≠ mX → Steps P m mX → Steps P m1 mX := by
  rintro m m1 mX hs hne ⟨n, hn⟩
  cases n with
  | zero => simp [runN] at hn; exact absurd hn hne
  | succ n => simp only [runN, hs] at hn; exact ⟨n, hn⟩
 cases e with
 | normal =>
  obtain ⟨e2, a2, w2, hq2, harr2⟩ := hq b k cs
  have hst : step P (lone (b.at a1 (.code (.loop c) :: k)) cs w1) = _ := step_loop
  refine ⟨e2, a2, w2, hq2, .of_steps (.head step_loop (Steps.trans harr (.one step_inLoop))) ?_⟩
  have len : ∀ {k' : List Item} {a3 : Act} {w3 : World}, k'.length ≤ k.length → lone (b.at a1 (.code (.loop c) :: k)) cs w1 ≠ lone (b.at a3 k') cs w3 := fun hk e => by
   have := congrArg (fun m : Machine => (m.gs.map fun g => g.frame.todo.length)) e
   simp [lone, Frame.at] at this
   omega
  have mode : ∀ {fr : Frame} {w3 : World}, fr.mode ≠ .run → lone (b.at a1 (.code (.loop c) :: k)) cs w1 ≠ lone fr cs w3 := fun hk e => by
   have := congrArg (fun m : Machine => (m.gs.map fun g => g.frame.mode)) e
   simp [lone, Frame.at] at this
   exact hk this.symm
  cases e2 with
  | normal => exact tail hst (len (Nat.le_refl _)) harr2
  | exit id => exact fun k' hk => tail hst (len (exitTo_len _ _ _ hk)) (harr2 k' hk)
  | goto l => exact absurd hq2 (hg _ _ _)
  | ret =>
   obtain ⟨todo, hs⟩ := harr2
   exact ⟨todo, tail hst (mode (by simp)) hs⟩
  | panic ch =>
   obtain ⟨todo, hs⟩ := harr2
   exact ⟨todo, tail hst (mode (by simp)) hs⟩
  | outgrown => exact absurd hq2 (ho _ _)
 | exit id => exact ⟨_, a1, w1, hq, .of_steps (.one step_loop) (.pass (x := .inLoop c) rfl (fun _ _ => .inl (by simp)) harr)⟩
 | goto l => exact absurd hq (hg _ _ _)
 | ret => exact ⟨_, a1, w1, hq, .of_steps (.one step_loop) (.pass (x := .inLoop c) rfl (fun _ _ => .inl (by simp)) harr)⟩
 | panic ch => exact ⟨_, a1, w1, hq, .of_steps (.one step_loop) (.pass (x := .inLoop c) rfl (fun _ _ => .inl (by simp)) harr)⟩
 | outgrown => exact absurd hq (ho _ _)
theorem Does.loop {n : Nat} {c : Code} {s s1 s' : St} {e : AEx} (h : Does P G n c s .normal s1) (k : Does P G n (.loop c) s1 e s') : Does P G n (.loop c) s e s' := fun μ ro a w hs =>
 wp_loop_unroll (fun _ _ _ => Post.noGoto) (fun _ _ => Post.noOut) (wp_mono (h μ ro a w hs) fun e' a1 w1 hp => by
  obtain ⟨μ1, ro1, h1, h3, h4⟩ := hp
  cases e' <;> simp only [ExRel] at h3
  exact wp_mono (k μ1 ro1 a1 w1 h4) fun e'' a2 w2 hq => Post.trans h1 hq)
theorem Does.loop_out {n : Nat} {c : Code} {s s' : St} {e : AEx} (he : e ≠ .normal) (h : Does P G n c s e s') : Does P G n (.loop c) s e s' := fun μ ro a w hs =>
 wp_loop_unroll (fun _ _ _ => Post.noGoto) (fun _ _ => Post.noOut) (wp_mono (h μ ro a w hs) fun e' a1 w1 hp => Post.other he hp)
end
noncomputable section
open Go.RowKit
variable {P : Program} {G : Nat → AV} {μ μ' : Nat → Option Loc} {ro ro' : Nat → Prop} {w w' : World}
inductive CO where
 | ret (v : AV)
 | pan (v : AV)
def CoRel (μ : Nat → Option Loc) (ro : Nat → Prop) (w : World) : CO → Ending → Prop
 | .ret v, .returned x => Rep μ ro w true v x
 | .pan v, .panicked [⟨x, false, false⟩] => Rep μ ro w true v x
 | _, _ => False
def CPost (n : Nat) (μ : Nat → Option Loc) (ro : Nat → Prop) (w : World) (r : CO) (h' : Hp) (e : Ending) (w' : World) : Prop :=
 ∃ μ' ro', Up n μ ro w μ' ro' w' ∧ CoRel μ' ro' w' r e ∧ HpRel μ' ro' h' w'
def CallDoes (P : Program) (G : Nat → AV) (f : FuncId) (args : List AV) (h : Hp) (r : CO) (h' : Hp) : Prop :=
 ∀ μ ro w (vs : Array Value), Reps μ ro w true args vs.toList → HpRel μ ro h w → GlRel G μ ro w → Calls P f vs w (CPost h.nx μ ro w r h')
structure CSpec where
 ok : List AV → Hp → Bool
 req : List AV → Hp → Prop
 res : List AV → Hp → CO × Hp
def SpecOk (P : Program) (G : Nat → AV) (f : FuncId) (S : CSpec) : Prop := ∀ args h, S.ok args h = true → S.req args h → CallDoes P G f args h (S.res args h).1 (S.res args h).2
inductive Pl where
 | t (k : Nat)
 | c (id off : Nat)
inductive Tf where
 | vec (p : Pl) (z : Nat) (e : TypeId)
 | wid (p : Pl)
 | nar (p : Pl)
 | frz (ps : List Pl) (c : List AV) (n : Nat)
 | pln (id : Nat)
 | eqt (p : Pl) (v : AV)
 | eqc (id : Nat) (c : List AV)
 | nl (p : Pl)
 | fgt (p : Pl)
 | shr (id n : Nat)
 | unp (id : Nat)
 | mp (id : Nat) (es : List (AV × AV))
inductive CH where
 | op (g : Option Bool) (h : Hint)
 | ret (g : Option Bool) (args : List AV) (r : AV) (blks : List Blk)
 | br (β : Bool)
 | cut (e : AEx) (s' : St) (ρ : List Nat) (tms : List (Nat × AV)) (blks : List Blk)
 | fcut (m : Nat) (e : AEx) (tms' : List (Nat × AV)) (blks' : List Blk) (ρ : List Nat) (tms : List (Nat × AV)) (blks : List Blk)
 | fcuta (k m : Nat) (e : AEx) (tms' : List (Nat × AV)) (blks' : List Blk) (ρ : List Nat) (tms : List (Nat × AV)) (blks : List Blk)
 | draw (fps : List (List Nat))
 | tr (f : Tf)
 | trp (f : Tf)
 | spec (S : CSpec)
def CH.gd : List CH → Option Bool
 | .op g _ :: _ => g
 | .ret g _ _ _ :: _ => g
 | _ => none
def CH.hint : List CH → Hint
 | .op _ h :: _ => h
 | [] => .c
 | _ => .a
def St.put (s : St) (dst : Option Tmp) (v : AV) : W St :=
 match dst with
 | none => W.pure s
 | some d => match Nat.blt d s.nt with | true => W.pure { s with tm := s.tm.put d (some v) } | false => W.fail
theorem StRel.put {s : St} {a : Act} {dst : Option Tmp} {v : AV} {x : Value} (h : StRel G μ ro w s a) (hv : Rep μ ro w true v x) : (s.put dst v).sat fun s' => StRel G μ ro w s' (a.put dst x) ∧ s'.hp = s.hp := by
 unfold St.put
 split
 ·exact W.sat_pure ⟨h, rfl⟩
 ·rename_i d
  split
  ·rename_i hb
   have hd : d < a.tmps.size := by rw [h.nt]; exact nB hb
   refine W.sat_pure ⟨⟨fun t u ht => ?_, by simp [Act.put, h.nt], h.hp, h.gl, h.df⟩, rfl⟩
   simp only [Tr.get_put] at ht
   simp only [Act.put]
   by_cases e : t = d
   ·rw [if_pos e] at ht
    simp only [sJ] at ht
    subst ht; subst e
    have : (a.tmps.setIfInBounds t x).getD t undef = x := by simp [Array.getD, hd]
    rw [this]; exact hv
   ·rw [if_neg e] at ht
    have := h.tm t u ht
    have e2 : (a.tmps.setIfInBounds d x).getD t undef = a.tmps.getD t undef := by
     simp only [Array.getD, Array.size_setIfInBounds]
     split
     ·exact Array.getElem_setIfInBounds_ne (by assumption) (fun e3 => e e3.symm)
     ·rfl
    rw [e2]; exact this
  ·exact W.sat_fail
theorem StRel.up {s : St} {a : Act} {h' : Hp} (h : StRel G μ ro w s a) (u : Up s.hp.nx μ ro w μ' ro' w') (hh : HpRel μ' ro' h' w') : StRel G μ' ro' w' { s with hp := h' } a := by
 have e := u.ag.ext h.hp.nx
 exact ⟨fun t v ht => (h.tm t v ht).mono e u.up u.fr.block, h.nt, hh, h.gl.mono e u.up u.fr.block, h.df.mono e u.up u.fr.block⟩
def gdVal (ops : Array Oper) (s : St) (o : Oper) (β : Option Bool) : W (Bool × St) :=
 match o.guard with
 | none => W.pure (true, s)
 | some (j, want) =>
  match (ops[j]?).bind (·.dst) with
  | some d =>
   match s.tm.get d, Nat.blt d s.nt with
   | some (.bool b), true =>
    match β with
    | some β => (W.owe (b = β)).bind fun _ => W.pure (β == want, { s with tm := s.tm.put d (some (.bool β)) })
    | none => W.pure (b == want, s)
   | some (.tup []), true => W.pure (false, s)
   | _, _ => W.fail
  | none => W.fail
theorem gdVal_sat {ops : Array Oper} {s : St} {o : Oper} {β : Option Bool} {a : Act} (h : StRel G μ ro w s a) :
  (gdVal ops s o β).sat fun r => StRel G μ ro w r.2 a ∧ r.2.hp = s.hp ∧ Region.wanted o (yielded ops a.tmps) = r.1 := by
 unfold gdVal
 split
 ·rename_i hg
  exact W.sat_pure ⟨h, rfl, by simp [Region.wanted, hg]⟩
 ·rename_i j want hg
  split
  ·rename_i d hd
   split
   ·rename_i b hget hlt
    have hv := h.tm d _ hget
    have hd' : d < a.tmps.size := by rw [h.nt]; exact nB hlt
    have hval : a.tmps.getD d undef = .bool b := by
     generalize a.tmps.getD d undef = x at hv
     cases hv; rfl
    have hy : yielded ops a.tmps j = some b := by
     simp only [yielded, hd, Option.bind_some, getD_arr a.tmps d undef hd', hval]
    split
    ·rename_i β
     refine W.sat_bind W.sat_owe fun _ hb => W.sat_pure ⟨⟨fun t v ht => ?_, h.nt, h.hp, h.gl, h.df⟩, rfl, ?_⟩
     ·simp only [Tr.get_put] at ht
      by_cases e : t = d
      ·rw [if_pos e] at ht
       simp only [sJ] at ht
       subst ht; subst e
       rw [hval, hb]; exact .bool
      ·rw [if_neg e] at ht
       exact h.tm t v ht
     ·simp only [Region.wanted, hg, hy, hb]
      cases β <;> cases want <;> rfl
    ·refine W.sat_pure ⟨h, rfl, ?_⟩
     simp only [Region.wanted, hg, hy]
     cases b <;> cases want <;> rfl
   ·rename_i hget hlt
    have hv := h.tm d _ hget
    have hd' : d < a.tmps.size := by rw [h.nt]; exact nB hlt
    have hy : yielded ops a.tmps j = none := by
     obtain ⟨vs, hx, _⟩ := hv.tup_inv
     simp only [yielded, hd, Option.bind_some, getD_arr a.tmps d undef hd', hx]
    exact W.sat_pure ⟨h, rfl, by simp only [Region.wanted, hg, hy]; rfl⟩
   ·exact W.sat_fail
  ·exact W.sat_fail
/-! ### a call by its contract -/
def hpOf : List Blk → Hp → Hp
 | [], h => h
 | b :: l, h => hpOf l (h.new b.ob)
def sh1 (k : Nat) : AV → AV
 | .ptr i o => .ptr (i + k) o
 | .sl i o l c e z => .sl (i + k) o l c e z
 | .vec i n z => .vec (i + k) n z
 | .mapr i => .mapr (i + k)
 | v => v
def sh2 (k : Nat) : AV → AV
 | .agg c => .agg (c.map (sh1 k))
 | v => sh1 k v
def sh (k : Nat) : AV → AV
 | .tup c => .tup (c.map (sh2 k))
 | v => sh2 k v
def oks1 : AV → Bool
 | .ptr _ _ | .sl .. | .vec .. | .mapr _ => true
 | .ifc _ v => v.pl1
 | v => v.pl1
def oks2 : AV → Bool
 | .agg c => c.all oks1
 | v => oks1 v
def oks : AV → Bool
 | .tup c => c.all oks2
 | v => oks2 v
def Ret (P : Program) (G : Nat → AV) (f : FuncId) (args : List AV) (r : AV) (blks : List Blk) : Prop :=
 ∀ ro w (vs : Array Value), (∀ b, ro b → b < w.heap.size) → Reps (fun _ => none) ro w false args vs.toList → GlRel G (fun _ => none) ro w →
  Calls P f vs w (CPost 0 (fun _ => none) ro w (.ret r) (hpOf blks ⟨.e, 0⟩))
theorem Rep.any_mu {μ'' : Nat → Option Loc} {v : AV} {x : Value} (h : Rep μ ro w false v x) : Rep μ'' ro w false v x := by
 generalize ho : false = o at h
 induction h with
 | any => exact .any
 | bool => exact .bool
 | int => exact .int
 | str h => exact .str h
 | ptr h => cases ho
 | nilp => exact .nilp
 | rop vs hb hc _ ih => exact .rop vs hb hc fun i hi => ih i hi rfl
 | sl h h1 h2 h3 => cases ho
 | vec h h1 h3 => cases ho
 | vecn => cases ho
 | lst vs hb hc _ hn ih => exact .lst vs hb hc (fun i hi => ih i hi rfl) hn
 | lstn => exact .lstn
 | nils => exact .nils
 | nen => exact .nen
 | agg hn _ ih => exact .agg hn fun i hi => ih i hi ho
 | tup hn _ ih => exact .tup hn fun i hi => ih i hi ho
 | fn hn _ hm _ ih ih' => exact .fn hn (fun i hi => ih i hi ho) hm (fun i hi => ih' i hi ho)
 | nilf => exact .nilf
 | ifc _ ih => exact .ifc (ih ho)
 | nili => exact .nili
 | mapr h => cases ho
 | nilm => exact .nilm
theorem GlRel.any {μ'' : Nat → Option Loc} (h : GlRel G μ ro w) : GlRel G μ'' ro w := fun g => ⟨(h g).1.any_mu, (h g).2⟩
def AV.dat1 : AV → Bool
 | .bool _ | .int _ _ | .str _ | .nilp | .nils | .nen | .nilf | .nili | .ptr _ _ | .sl .. | .vec .. | .mapr _ | .nilm => true
 | _ => false
def AV.dat : AV → Bool
 | .agg c | .tup c => c.all AV.dat1
 | v => v.dat1
theorem Rep.dat1 {o : Bool} {v : AV} {x : Value} (h : Rep μ ro w o v x) (hd : v.dat1 = true) : Rep μ ro' w o v x := by
 cases h <;> first
  | (simp [AV.dat1] at hd; done)
  | constructor
 all_goals assumption
theorem Rep.dat {o : Bool} {v : AV} {x : Value} (h : Rep μ ro w o v x) (hd : v.dat = true) : Rep μ ro' w o v x := by
 have key : ∀ {c : List AV} {i : Nat}, c.all AV.dat1 = true → i < c.length → (c.getD i .any).dat1 = true := fun {c i} hp hi => by
  rw [List.all_eq_true] at hp
  rw [List.getD_eq_getElem?_getD, List.getElem?_eq_getElem hi]
  exact hp _ (List.getElem_mem hi)
 cases h with
 | agg hn hr => exact .agg hn fun i hi => (hr i hi).dat1 (key hd hi)
 | tup hn hr => exact .tup hn fun i hi => (hr i hi).dat1 (key hd hi)
 | any => cases hd
 | bool => exact .bool
 | int => exact .int
 | str h => exact .str h
 | ptr h => exact .ptr h
 | nilp => exact .nilp
 | rop vs hb hc hr => cases hd
 | sl h h1 h2 h3 => exact .sl h h1 h2 h3
 | vec h h1 h3 => exact .vec h h1 h3
 | vecn => exact .vecn
 | lst vs hb hc hr hn => cases hd
 | lstn => exact .lstn
 | nils => exact .nils
 | nen => exact .nen
 | fn hn hr hm hs => cases hd
 | nilf => exact .nilf
 | ifc h => cases hd
 | nili => exact .nili
 | mapr h => exact .mapr h
 | nilm => exact .nilm
def snap1 (h : Hp) (v v' : AV) : W Bool :=
 match v with
 | .sl id off len cap ex z =>
  match v', h.m.get id with
  | .lst c n, some (.blk k) => match k.pl with | true => (W.owe (sub k.c off (mu len z) = c ∧ n = len ∧ off + mu len z ≤ k.c.length ∧ len ≤ cap)).bind fun _ => W.pure true | false => W.fail
  | _, _ => W.fail
 | .vec id n z =>
  match v', h.m.get id with
  | .lst c n', some (.blk k) => match k.pl with | true => (W.owe (k.c = c ∧ n' = n ∧ k.c.length = mu n z)).bind fun _ => W.pure true | false => W.fail
  | _, _ => W.fail
 | .nils => match v' with | .lst [] 0 => W.pure false | .nils => W.pure false | .any => W.pure false | _ => W.fail
 | v => match v.pl with | true => (match v' with | .any => W.pure false | v' => (W.owe (v = v')).bind fun _ => W.pure false) | false => W.fail
def fill1 (v v' : AV) : AV := match v' with | .any => v | v' => v'
def fillA : List AV → List AV → List AV
 | v :: l, v' :: l' => fill1 v v' :: fillA l l'
 | _, l' => l'
def snap (h : Hp) : List AV → List AV → W Bool
 | [], [] => W.pure false
 | v :: l, v' :: l' => (snap1 h v v').bind fun a => (snap h l l').bind fun b => W.pure (a || b)
 | _, _ => W.fail
def roC (u : Bool) (ro : Nat → Prop) (h : Hp) (μ : Nat → Option Loc) (b : Nat) : Prop := ro b ∨ (u = true ∧ ∃ i k l, h.m.get i = some k ∧ μ i = some l ∧ l.1 = b)
theorem snap1_sat {h : Hp} {v v' : AV} {x : Value} (hv : Rep μ ro w true v x) (hh : HpRel μ ro h w) : (snap1 h v v').sat fun u => Rep μ (roC u ro h μ) w false (fill1 v v') x := by
 unfold snap1
 split
 ·rename_i id off len cap ex z
  split
  ·rename_i c n k hk
   split
   ·rename_i hpl
    refine W.sat_bind W.sat_owe fun _ ⟨h1, h2, h3, h4⟩ => W.sat_pure ?_
    cases hv with
    | sl hb hc1 hc2 hc3 =>
     rename_i cap' l
     have hob := hh.obsM id _ _ hk hb
     obtain ⟨cs, fr, g1, g0, g2, g3, g4, g5⟩ := hob.get
     subst h2
     rw [hpl] at g5
     rw [mu_eq] at h1 h3
     subst h1
     refine .lst (fun i => cs.getD (off + i) undef) (fun _ => ⟨.inr ⟨rfl, id, _, l, hk, hb, rfl⟩, rfl⟩) (fun i hi => ?_) (fun i hi => ?_) (Nat.le_trans h4 hc1)
     ·have := (sub_getD hi).2.1
      exact cell_of (off := off + i) g1 (by omega)
     ·obtain ⟨e1, e2, _⟩ := sub_getD hi
      rw [e1]
      exact (g5 _ e2).mono (fun _ _ h => h) (fun _ h => .inl h) (fun _ _ => rfl)
   ·exact W.sat_fail
  ·exact W.sat_fail
 ·rename_i id n z
  split
  ·rename_i c n' k hk
   split
   ·rename_i hpl
    refine W.sat_bind W.sat_owe fun _ ⟨h1, h2, h3⟩ => W.sat_pure ?_
    subst h1; subst h2
    rw [mu_eq] at h3
    cases hv with
    | vecn =>
     have hc0 : k.c = [] := List.length_eq_zero_iff.1 (by simpa using h3)
     rw [hc0]
     exact .lstn
    | vec hb hc1 hc3 =>
     rename_i cap' l
     have hob := hh.obsM id _ _ hk hb
     obtain ⟨cs, fr, g1, g0, g2, g3, g4, g5⟩ := BlkRel.get hob
     rw [hpl] at g5
     refine .lst (fun i => cs.getD i undef) (fun _ => ⟨.inr ⟨rfl, id, _, l, hk, hb, rfl⟩, rfl⟩) (fun i hi => ?_) (fun i hi => ?_) hc1
     ·rw [Nat.zero_add]; exact cell_of g1 (by omega)
     ·exact (g5 i hi).mono (fun _ _ h => h) (fun _ h => .inl h) (fun _ _ => rfl)
   ·exact W.sat_fail
  ·exact W.sat_fail
 ·cases hv
  split
  ·exact W.sat_pure .lstn
  ·exact W.sat_pure .nils
  ·exact W.sat_pure .nils
  ·exact W.sat_fail
 ·split
  ·rename_i hp
   have hv2 := (hv.pl hp (o' := false)).mono (μ' := μ) (ro' := roC false ro h μ) (w' := w) (fun _ _ h => h) (fun _ h => .inl h) (fun _ _ => rfl)
   split
   ·exact W.sat_pure hv2
   ·rename_i hna
    refine W.sat_bind W.sat_owe fun _ he => W.sat_pure ?_
    have : fill1 v v' = v' := by
     unfold fill1
     split
     ·exact absurd rfl (hna ·)
     ·rfl
    rw [this, ← he]
    exact hv2
  ·exact W.sat_fail
theorem roC_mono {u v : Bool} {h : Hp} (huv : u = true → v = true) : ∀ b, roC u ro h μ b → roC v ro h μ b := fun b hb => by
 rcases hb with h | ⟨h1, h2⟩
 ·exact .inl h
 ·exact .inr ⟨huv h1, h2⟩
theorem snap_sat {h : Hp} (hh : HpRel μ ro h w) : ∀ (l l' : List AV) (xs : List Value), Reps μ ro w true l xs → (snap h l l').sat fun u => Reps μ (roC u ro h μ) w false (fillA l l') xs
 | [], [], xs, hr => by
  have : xs = [] := List.length_eq_zero_iff.1 (by simpa using hr.1)
  subst this
  exact W.sat_pure Reps.nil
 | v :: l, v' :: l', xs, hr => by
  obtain ⟨x, xs', rfl, h1, h2⟩ := hr.head
  exact W.sat_bind (snap1_sat h1 hh) fun a ha => W.sat_bind (snap_sat hh l l' xs' h2) fun b hb => W.sat_pure (Reps.cons (ha.mono (fun _ _ h => h) (roC_mono (by simp; exact fun h => .inl h)) (fun _ _ => rfl)) (hb.mono (fun _ _ h => h) (roC_mono (by simp; exact fun h => .inr h)) (fun _ _ => rfl)))
 | [], _ :: _, _, _ => W.sat_fail
 | _ :: _, [], _, _ => W.sat_fail
theorem hpOf_get : ∀ (l : List Blk) (h : Hp) (i : Nat), (hpOf l h).nx = h.nx + l.length ∧ (hpOf l h).m.get i = if h.nx ≤ i ∧ i < h.nx + l.length then (l[i - h.nx]?).map Blk.ob else h.m.get i
 | [], h, i => ⟨rfl, by simp [hpOf]; intro h1 h2; omega⟩
 | b :: l, h, i => by
  obtain ⟨h1, h2⟩ := hpOf_get l (h.new b.ob) i
  simp only [hpOf, List.length_cons]
  rw [h1, h2]
  refine ⟨by simp only [Hp.new]; omega, ?_⟩
  simp only [Hp.new, Tr.get_put]
  by_cases e : i = h.nx
  ·subst e
   rw [if_neg (by omega), if_pos rfl, if_pos (by omega)]
   simp
  ·by_cases c : h.nx + 1 ≤ i ∧ i < h.nx + 1 + l.length
   ·rw [if_pos c, if_pos (by omega), show i - h.nx = (i - (h.nx + 1)) + 1 by omega]
    simp
   ·rw [if_neg c, if_neg e, if_neg (by omega)]
theorem all_get {q : AV → Bool} {c : List AV} {i : Nat} (hp : c.all q = true) (hi : i < c.length) : q (c.getD i .any) = true := by
 rw [List.all_eq_true] at hp
 rw [List.getD_eq_getElem?_getD, List.getElem?_eq_getElem hi]
 exact hp _ (List.getElem_mem hi)
theorem map_get {q : AV → AV} {c : List AV} {i : Nat} (hi : i < c.length) : (c.map q).getD i .any = q (c.getD i .any) := by
 simp [List.getD, List.getElem?_eq_getElem hi]
theorem sh1_rep {k : Nat} {v : AV} {x : Value} {μ'' : Nat → Option Loc} (hμ : ∀ i b, μ i = some b → μ'' (i + k) = some b) (h : Rep μ ro w true v x) (hp : oks1 v = true) : Rep μ'' ro w true (sh1 k v) x := by
 cases h with
 | ptr h => exact .ptr (hμ _ _ h)
 | sl h h1 h2 h3 => exact .sl (hμ _ _ h) h1 h2 h3
 | vec h h1 h3 => exact .vec (hμ _ _ h) h1 h3
 | vecn => exact .vecn
 | ifc h => exact .ifc ((h.pl1 (o' := false) hp).any_mu.up)
 | any => cases hp
 | bool => exact .bool
 | int => exact .int
 | str h => exact .str h
 | nilp => exact .nilp
 | rop vs hb hc hr => exact .rop vs hb hc fun i hi => (hr i hi).any_mu
 | lst vs hb hc hr hn => exact .lst vs hb hc (fun i hi => (hr i hi).any_mu) hn
 | lstn => exact .lstn
 | nils => exact .nils
 | nen => exact .nen
 | agg hn hr => cases hp
 | tup hn hr => cases hp
 | fn hn hr hm hs => exact ((Rep.fn (o := true) hn hr hm hs).pl1 (o' := false) hp).any_mu.up
 | nilf => exact .nilf
 | nili => exact .nili
 | mapr h => exact .mapr (hμ _ _ h)
 | nilm => exact .nilm
theorem sh2_rep {k : Nat} {v : AV} {x : Value} {μ'' : Nat → Option Loc} (hμ : ∀ i b, μ i = some b → μ'' (i + k) = some b) (h : Rep μ ro w true v x) (hp : oks2 v = true) : Rep μ'' ro w true (sh2 k v) x := by
 cases v with
 | agg c =>
  cases h with
  | agg hn hr =>
   refine .agg (by simpa using hn) fun i hi => ?_
   simp only [List.length_map] at hi
   rw [map_get hi]
   exact sh1_rep hμ (hr i hi) (all_get hp hi)
 | _ => exact sh1_rep hμ h hp
theorem sh_rep {k : Nat} {v : AV} {x : Value} {μ'' : Nat → Option Loc} (hμ : ∀ i b, μ i = some b → μ'' (i + k) = some b) (h : Rep μ ro w true v x) (hp : oks v = true) : Rep μ'' ro w true (sh k v) x := by
 cases v with
 | tup c =>
  cases h with
  | tup hn hr =>
   refine .tup (by simpa using hn) fun i hi => ?_
   simp only [List.length_map] at hi
   rw [map_get hi]
   exact sh2_rep hμ (hr i hi) (all_get hp hi)
 | _ => exact sh2_rep hμ h hp
def datBlks : List Blk → Prop
 | [] => True
 | b :: l => (∀ x ∈ b.c, x.dat1 = true) ∧ datBlks l
theorem datBlks_get : ∀ {l : List Blk} {i : Nat} {b : Blk}, datBlks l → l[i]? = some b → ∀ x ∈ b.c, x.dat1 = true
 | [], i, b, _, h => by simp at h
 | c :: l, 0, b, hd, h => by simp only [List.getElem?_cons_zero, sJ] at h; subst h; exact hd.1
 | c :: l, i + 1, b, hd, h => datBlks_get hd.2 (by simpa using h)
def callBy (P : Program) (G : Nat → AV) (f : FuncId) (args args' : List AV) (r : AV) (blks : List Blk) (h : Hp) : W (CO × Hp) :=
 (snap h args args').bind fun u =>
 match oks r && (blks.all (fun b => b.pl && b.it.isNone) && (!u || r.dat)) with
 | true => (match u with | true => W.owe (datBlks blks) | false => W.pure ()).bind fun _ => (W.owe (Ret P G f (fillA args args') r blks)).bind fun _ => W.pure (.ret (sh h.nx r), hpOf blks h)
 | false => W.fail
theorem callBy_sat {f : FuncId} {args args' : List AV} {r : AV} {blks : List Blk} {h : Hp} {vs : Array Value} (hargs : Reps μ ro w true args vs.toList) (hh : HpRel μ ro h w) (hg : GlRel G μ ro w) :
  (callBy P G f args args' r blks h).sat fun x => Calls P f vs w (CPost h.nx μ ro w x.1 x.2) := by
 refine W.sat_bind (snap_sat hh args args' _ hargs) fun u hu => ?_
 split
 ·rename_i hb
  simp only [Bool.and_eq_true, Bool.or_eq_true, Bool.not_eq_true'] at hb
  obtain ⟨hb1, hb2, hb3⟩ := hb
  refine W.sat_bind (Q := fun _ => u = true → datBlks blks) ?_ fun _ hdat => W.sat_bind W.sat_owe fun _ hret => W.sat_pure ?_
  ·cases u
   ·exact W.sat_pure (fun h => by cases h)
   ·exact W.sat_mono W.sat_owe fun _ h _ => h
  have hlt : ∀ b, roC u ro h μ b → b < w.heap.size := fun b hb => by
   rcases hb with h1 | ⟨_, i, k, l, h1, h2, h3⟩
   ·exact hh.old b h1
   ·exact h3 ▸ hh.lt i l h2
  refine (hret (roC u ro h μ) w vs hlt ⟨hu.1, fun i hi => (hu.2 i hi).any_mu⟩ (hg.any.mono (μ := fun _ => none) (fun _ _ h => h) (fun _ h => .inl h) (fun _ _ => rfl))).mono ?_
  rintro e w1 ⟨μ1, ro1, hup, hco, hh1⟩
  have hold : ∀ b, b < w.heap.size → w1.heap[b]? = w.heap[b]? := fun b hb => hup.fr.rest b hb (fun i l hi => by cases hi)
  have hfresh : ∀ i l, μ1 i = some l → w.heap.size ≤ l.1 := fun i l hi => by
   rcases hup.fr.new i l hi with ⟨j, m, hj, _⟩ | h1
   ·cases hj
   ·exact h1
  let μ2 : Nat → Option Loc := fun i => if i < h.nx then μ i else μ1 (i - h.nx)
  let ro2 : Nat → Prop := fun b => ro1 b ∧ (ro b ∨ w.heap.size ≤ b)
  have hμ2 : ∀ i b, μ1 i = some b → μ2 (i + h.nx) = some b := fun i b hi => by
   simp only [μ2]; rw [if_neg (by omega), Nat.add_sub_cancel]; exact hi
  have hag : agree h.nx μ μ2 := fun i hi => by simp only [μ2]; rw [if_pos hi]
  have hro2 : ∀ b, ro b → ro2 b := fun b hb => ⟨hup.up b (.inl hb), .inl hb⟩
  have hnw : ∀ b, ro2 b → ro b ∨ w.heap.size ≤ b := fun b hb => hb.2
  have hsame : u = false → ∀ b, ro1 b → ro2 b := fun hu b hb => ⟨hb, by
   rcases hup.nw b hb with h1 | h1 | ⟨_, _, h1, _⟩
   ·rcases h1 with h1 | ⟨h1, _⟩
    ·exact .inl h1
    ·rw [hu] at h1; cases h1
   ·exact .inr h1
   ·cases h1⟩
  have hfr : Fr μ ro w μ2 w1 := ⟨hup.fr.os, hup.fr.tape, hup.fr.output, hup.fr.size, fun b hb => hold b (hh.old b hb), fun b hb _ => hold b hb, fun i l hi => by
   simp only [μ2] at hi
   split at hi
   ·exact .inl ⟨i, l, hi, rfl⟩
   ·exact .inr (hfresh _ _ hi)⟩
  refine ⟨μ2, ro2, ⟨hag, hro2, fun b hb => (hnw b hb).imp_right .inl, hfr⟩, ?_, ?_⟩
  · -- the result
   cases e with
   | returned x =>
    have hx : Rep μ1 ro1 w1 true r x := hco
    have : Rep μ2 ro1 w1 true (sh h.nx r) x := sh_rep hμ2 hx hb1
    show Rep μ2 ro2 w1 true (sh h.nx r) x
    cases u with
    | false => exact this.mono (fun _ _ h => h) (hsame rfl) (fun _ _ => rfl)
    | true =>
     have hd : r.dat = true := by simpa using hb3
     exact sh_rep hμ2 (hx.dat hd) hb1
   | panicked c => exact hco.elim
   | outgrown => exact hco.elim
  · -- the heap
   have hget := fun i => (hpOf_get blks h i).2
   have hget1 := fun i => (hpOf_get blks ⟨.e, 0⟩ i).2
   have hin : ∀ i k, (hpOf blks h).m.get i = some k → (i < h.nx ∧ h.m.get i = some k) ∨ (h.nx ≤ i ∧ (hpOf blks ⟨.e, 0⟩).m.get (i - h.nx) = some k) := fun i k hi => by
    rw [hget i] at hi
    split at hi
    ·rename_i hc
     refine .inr ⟨hc.1, ?_⟩
     rw [hget1, if_pos (by simp only; omega)]
     exact hi
    ·refine .inl ⟨?_, hi⟩
     rcases Nat.lt_or_ge i h.nx with h1 | h1
     ·exact h1
     ·rcases hh.obs i k hi with ⟨b, hb, _⟩ | ⟨_, _, h2⟩
      ·rw [hh.nx i h1] at hb; cases hb
      ·exact h2
   have hold2 : ∀ b, ro b → w1.heap[b]? = w.heap[b]? := fun b hb => hold b (hh.old b hb)
   constructor
   ·intro i k hi
    rcases hin i k hi with ⟨h1, h2⟩ | ⟨h1, h2⟩
    ·rcases hh.obs i k h2 with ⟨b, hb, hob⟩ | ⟨q1, q2, q3⟩
     ·exact .inl ⟨b, by simp only [μ2]; rw [if_pos h1]; exact hb, hob.mono (hag.ext hh.nx) hro2 hold2 (hold _ (hh.lt i b hb))⟩
     ·exact .inr ⟨by simp only [μ2]; rw [if_pos h1]; exact q1, q2, by rw [(hpOf_get blks h 0).1]; omega⟩
    ·rcases hh1.obs _ k h2 with ⟨b, hb, hob⟩ | ⟨q1, q2, q3⟩
     rotate_left
     ·rw [(hpOf_get blks ⟨.e, 0⟩ 0).1] at q3
      simp only at q3
      exact .inr ⟨by simp only [μ2]; rw [if_neg (by omega)]; exact q1, q2, by rw [(hpOf_get blks h 0).1]; omega⟩
     refine .inl ⟨b, by simp only [μ2]; rw [if_neg (by omega)]; exact hb, ?_⟩
     rw [hget1] at h2
     split at h2
     ·simp only [Option.map_eq_some_iff] at h2
      obtain ⟨kb, hkb, rfl⟩ := h2
      have hkb2 : kb.pl = true ∧ kb.it = none := by
       rw [List.all_eq_true] at hb2
       have := hb2 kb (List.mem_of_getElem? hkb)
       simpa using this
      have hpl := hkb2.1
      have hobk : kb.ob = .blk kb := by simp [Blk.ob, hkb2.2]
      rw [hobk] at hob ⊢
      obtain ⟨cs, fr, g1, g0, g2, g3, g4, g5⟩ := hob.get
      refine ⟨⟨cs, fr, g1, g0, g2, g3, g4, fun j hj => ?_⟩⟩
      have hrep := g5 j hj
      rw [hpl] at hrep ⊢
      cases u with
      | false => exact (Rep.any_mu hrep).mono (fun _ _ h => h) (hsame rfl) (fun _ _ => rfl)
      | true =>
       have hd := datBlks_get (hdat rfl) hkb
       refine (Rep.any_mu hrep).dat1 (hd _ ?_)
       rw [List.getD_eq_getElem?_getD, List.getElem?_eq_getElem hj]
       exact List.getElem_mem hj
     ·cases h2
   ·intro i j k l b c hi hj hbi hbj hbc
    simp only [μ2] at hbi hbj
    rcases hin i k hi with ⟨h1, h2⟩ | ⟨h1, h2⟩ <;> rcases hin j l hj with ⟨h3, h4⟩ | ⟨h3, h4⟩
    ·rw [if_pos h1] at hbi; rw [if_pos h3] at hbj
     exact hh.inj i j k l b c h2 h4 hbi hbj hbc
    ·rw [if_pos h1] at hbi; rw [if_neg (by omega)] at hbj
     have := hh.lt i b hbi
     have := hfresh _ _ hbj
     omega
    ·rw [if_neg (by omega)] at hbi; rw [if_pos h3] at hbj
     have := hh.lt j c hbj
     have := hfresh _ _ hbi
     omega
    ·rw [if_neg (by omega)] at hbi hbj
     have := hh1.inj _ _ k l b c h2 h4 hbi hbj hbc
     omega
   ·intro i k b hi hbi hr
    simp only [μ2] at hbi
    rcases hin i k hi with ⟨h1, h2⟩ | ⟨h1, h2⟩
    ·rw [if_pos h1] at hbi
     rcases hr.2 with h3 | h3
     ·exact hh.own i k b h2 hbi h3
     ·have := hh.lt i b hbi
      omega
    ·rw [if_neg (by omega)] at hbi
     exact hh1.own _ k b h2 hbi hr.1
   ·intro i b hbi
    simp only [μ2] at hbi
    split at hbi
    ·exact Nat.lt_of_lt_of_le (hh.lt i b hbi) hup.fr.size
    ·exact hh1.lt _ b hbi
   ·intro b hb
    exact hh1.old b hb.1
   ·intro i hi
    rw [(hpOf_get blks h 0).1] at hi
    simp only [μ2]
    rw [if_neg (by omega)]
    exact hh1.nx _ (by rw [(hpOf_get blks ⟨.e, 0⟩ 0).1]; simp only; omega)
 ·exact W.sat_fail
end
noncomputable section
open Go.RowKit
variable {P : Program} {G : Nat → AV} {μ μ' : Nat → Option Loc} {ro ro' : Nat → Prop} {w w' : World}
abbrev CallB := FuncId → List AV → Hp → List CH → W (CO × Hp × List CH)
def aftCall (s : St) (dst : Option Tmp) (r : CO) (h : Hp) (hs : List CH) : W (AEx × St × List CH) :=
 match r with
 | .ret v => (({ s with hp := h } : St).put dst v).bind fun s1 => W.pure (.normal, s1, hs)
 | .pan v => W.pure (.panic v, { s with hp := h }, hs)
def evStep (P : Program) (G : Nat → AV) (callB : CallB) (ops : Array Oper) (i : Nat) (s : St) (hs : List CH) : W (AEx × St × List CH) :=
 match ops[i]? with
 | none => W.fail
 | some o =>
  (gdVal ops s o (CH.gd hs)).bind fun g =>
  match g.1 with
  | false => (g.2.put o.dst .undef).bind fun s1 => W.pure (.normal, s1, hs.tail)
  | true =>
   (evOp P (CH.hint hs) (opd G g.2) o g.2.hp).bind fun r =>
   match r with
   | .val v h => (({ g.2 with hp := h } : St).put o.dst v).bind fun s1 => W.pure (.normal, s1, hs.tail)
   | .skip h => (({ g.2 with hp := h } : St).put o.dst .undef).bind fun s1 => W.pure (.normal, s1, hs.tail)
   | .call f args =>
    match hs with
    | .ret _ args' r blks :: hs' => (callBy P G f args args' r blks g.2.hp).bind fun x => aftCall g.2 o.dst x.1 x.2 hs'
    | hs => (callB f args g.2.hp hs.tail).bind fun x => aftCall g.2 o.dst x.1 x.2.1 x.2.2
   | .dfr f args => (({ g.2 with df := (f, args) :: g.2.df } : St).put o.dst .undef).bind fun s1 => W.pure (.normal, s1, hs.tail)
   | .pan v => W.pure (.panic v, g.2, hs.tail)
def AEx.here : AEx → Prop
 | .normal | .panic _ => True
 | _ => False
def PutIn (ops : Array Oper) (i : Nat) (a a' : Act) : Prop := ∀ o, ops[i]? = some o → ∃ x, a'.tmps = (a.put o.dst x).tmps
def StepDoes (P : Program) (G : Nat → AV) (ops : Array Oper) (i : Nat) (s : St) (e : AEx) (s' : St) : Prop :=
 ∀ μ ro a w (Q : Exit → Act → World → Prop) (K : Act → World → Prop), StRel G μ ro w s a →
  (∀ μ' ro' a' w', Up s.hp.nx μ ro w μ' ro' w' → StRel G μ' ro' w' s' a' → (e = .normal → PutIn ops i a a' → K a' w') ∧ ∀ v x, e = .panic v → Rep μ' ro' w' true v x → Q (.panic [⟨x, false, false⟩]) a' w') →
  wpOp P ops Q i K a w
theorem undef_rep {o : Bool} : Rep μ ro w o AV.undef Go.undef := .tup rfl fun i hi => by simp at hi
theorem evStep_sat {callB : CallB} (hcall : ∀ f args h hs, (callB f args h hs).sat fun r => CallDoes P G f args h r.1 r.2.1) {ops : Array Oper} {i : Nat} {s : St} {hs : List CH} :
  (evStep P G callB ops i s hs).sat fun r => StepDoes P G ops i s r.1 r.2.1 ∧ r.1.here := by
 intro r ps he hok
 have main : ∀ μ ro a w (Q : Exit → Act → World → Prop) (K : Act → World → Prop), StRel G μ ro w s a → (evStep P G callB ops i s hs).sat fun r =>
   ((∀ μ' ro' a' w', Up s.hp.nx μ ro w μ' ro' w' → StRel G μ' ro' w' r.2.1 a' → (r.1 = .normal → PutIn ops i a a' → K a' w') ∧ ∀ v x, r.1 = .panic v → Rep μ' ro' w' true v x → Q (.panic [⟨x, false, false⟩]) a' w') →
    wpOp P ops Q i K a w) := by
  intro μ ro a w Q K hs0
  unfold evStep
  split
  ·exact W.sat_fail
  ·rename_i o ho
   have putIn : ∀ x, PutIn ops i a (a.put o.dst x) := fun x o' ho' => by rw [ho] at ho'; cases ho'; exact ⟨x, rfl⟩
   refine W.sat_bind (gdVal_sat hs0) fun g ⟨hst, hhp, hwant⟩ => ?_
   have hwp : ∀ {r : AEx × St × List CH}, g.1 = true → ((∀ μ' ro' a' w', Up s.hp.nx μ ro w μ' ro' w' → StRel G μ' ro' w' r.2.1 a' → (r.1 = .normal → PutIn ops i a a' → K a' w') ∧ ∀ v x, r.1 = .panic v → Rep μ' ro' w' true v x → Q (.panic [⟨x, false, false⟩]) a' w') → o.upon P a K Q ((execOp a.eval o).run P w)) →
     ((∀ μ' ro' a' w', Up s.hp.nx μ ro w μ' ro' w' → StRel G μ' ro' w' r.2.1 a' → (r.1 = .normal → PutIn ops i a a' → K a' w') ∧ ∀ v x, r.1 = .panic v → Rep μ' ro' w' true v x → Q (.panic [⟨x, false, false⟩]) a' w') → wpOp P ops Q i K a w) := fun hg h hpost => by
    unfold wpOp
    rw [ho]
    simp only
    rw [hwant, hg, if_pos rfl]
    exact .inl (h hpost)
   split
   ·rename_i hg
    refine W.sat_bind (StRel.put hst undef_rep) fun s1 ⟨hs1, hhp1⟩ => W.sat_pure fun hpost => ?_
    unfold wpOp
    rw [ho]
    simp only
    rw [hwant, hg, if_neg (by simp)]
    exact (hpost μ ro _ w (.refl _ _ _ _) hs1).1 rfl (putIn _)
   ·rename_i hg
    refine W.sat_bind (evOp_sat (fun x => opd_rep hst x) hst.hp) fun r hr => ?_
    rw [hhp] at hr
    have call : ∀ {f : FuncId} {vs : Array Value} {x : CO} {h' : Hp} {hs' : List CH}, (execOp a.eval o).run P w = .ok (.enter f vs) w → Calls P f vs w (CPost s.hp.nx μ ro w x h') →
      (aftCall g.2 o.dst x h' hs').sat fun r => ((∀ μ' ro' a' w', Up s.hp.nx μ ro w μ' ro' w' → StRel G μ' ro' w' r.2.1 a' → (r.1 = .normal → PutIn ops i a a' → K a' w') ∧ ∀ v x, r.1 = .panic v → Rep μ' ro' w' true v x → Q (.panic [⟨x, false, false⟩]) a' w') → wpOp P ops Q i K a w) := by
     intro f vs x h' hs' hrun hc r1 ps1 he1 hok1
     refine hwp hg fun hpost => ?_
     rw [hrun, Oper.upon_enter]
     refine hc.mono ?_
     rintro e w1 ⟨μ1, ro1, hup, hco, hh1⟩
     have hup' : Up g.2.hp.nx μ ro w μ1 ro1 w1 := by rw [hhp]; exact hup
     have hst1 := hst.up hup' hh1
     unfold aftCall at he1
     split at he1
     ·rename_i v
      cases e <;> simp only [CoRel] at hco
      rename_i x1
      have := W.sat_bind (StRel.put hst1 hco (dst := o.dst)) (fun s1 hs1 => W.sat_pure (Q := fun r : AEx × St × List CH => r.1 = .normal ∧ StRel G μ1 ro1 w1 r.2.1 (a.put o.dst x1)) ⟨rfl, hs1.1⟩) r1 ps1 he1 hok1
      exact (hpost μ1 ro1 _ w1 hup this.2).1 this.1 (putIn _)
     ·rename_i v
      simp only [W.pure, sJ, Prod.mk.injEq] at he1
      obtain ⟨rfl, rfl⟩ := he1
      cases e with
      | returned x1 => exact hco.elim
      | outgrown => exact hco.elim
      | panicked chain =>
       rcases chain with _ | ⟨⟨x1, r1, g1⟩, _ | ⟨p2, ps⟩⟩
       ·exact hco.elim
       ·cases r1 <;> cases g1 <;> first | exact hco.elim | skip
        exact (hpost μ1 ro1 a w1 hup hst1).2 v x1 rfl hco
       ·cases r1 <;> cases g1 <;> exact hco.elim
    cases r with
    | val v h' =>
     obtain ⟨v', w1, μ1, h1, h2, h3, h4, h5⟩ := hr
     have hup := Up.of_fr h2 h5
     have hst1 := hst.up (by rw [hhp]; exact hup) h4
     refine W.sat_bind (StRel.put hst1 h3) fun s1 ⟨hs1, _⟩ => W.sat_pure (hwp hg fun hpost => ?_)
     rw [h1, Oper.upon_value]
     exact (hpost μ1 ro _ w1 hup hs1).1 rfl (putIn _)
    | skip h' =>
     obtain ⟨w1, h1, h4, h5⟩ := hr
     have hup := Up.of_fr (.refl s.hp.nx μ) h5
     have hst1 := hst.up (by rw [hhp]; exact hup) h4
     refine W.sat_bind (StRel.put hst1 undef_rep) fun s1 ⟨hs1, _⟩ => W.sat_pure (hwp hg fun hpost => ?_)
     rw [h1, Oper.upon_skip]
     exact (hpost μ ro _ w1 hup hs1).1 rfl (putIn _)
    | call f args =>
     obtain ⟨vs, h1, h2⟩ := hr
     simp only
     split
     ·exact W.sat_bind (callBy_sat h2 hst.hp hst.gl) fun x hx => call h1 (by rw [hhp] at hx; exact hx)
     ·exact W.sat_bind (hcall f args g.2.hp _) fun x hx => call h1 (by have := hx μ ro w vs h2 hst.hp hst.gl; rw [hhp] at this; exact this)
    | dfr f args =>
     obtain ⟨d, h1, h2⟩ := hr
     have hst1 : StRel G μ ro w ({ g.2 with df := (f, args) :: g.2.df } : St) { a with defers := d :: a.defers } := ⟨hst.tm, hst.nt, hst.hp, hst.gl, ⟨h2, hst.df⟩⟩
     refine W.sat_bind (StRel.put hst1 undef_rep) fun s1 ⟨hs1, _⟩ => W.sat_pure (hwp hg fun hpost => ?_)
     rw [h1, Oper.upon_defer]
     refine (hpost μ ro _ w (.refl _ _ _ _) hs1).1 rfl fun o' ho' => ⟨undef, ?_⟩
     rw [ho] at ho'; cases ho'
     cases o.dst <;> rfl
    | pan v =>
     obtain ⟨v', h1, h2⟩ := hr
     refine W.sat_pure (hwp hg fun hpost => ?_)
     rw [h1, Oper.upon_panic]
     exact (hpost μ ro a w (.refl _ _ _ _) hst).2 v v' rfl h2
 refine ⟨fun μ ro a w Q K hs0 hpost => main μ ro a w Q K hs0 r ps he hok hpost, ?_⟩
 have put_here : ∀ {s : St} {dst : Option Tmp} {v : AV} {hs : List CH}, ((s.put dst v).bind fun s1 => W.pure (AEx.normal, s1, hs)).sat fun r => r.1.here := fun {s dst v hs} => W.sat_bind (Q := fun _ => True) (fun _ _ _ _ => trivial) fun _ _ => W.sat_pure trivial
 have aft_here : ∀ {s : St} {dst : Option Tmp} {x : CO} {h : Hp} {hs : List CH}, (aftCall s dst x h hs).sat fun r => r.1.here := fun {s dst x h hs} => by
  cases x
  ·exact put_here
  ·exact W.sat_pure trivial
 have triv : ∀ {α : Type} {m : W α}, m.sat fun _ => True := fun _ _ _ _ => trivial
 have : (evStep P G callB ops i s hs).sat fun r => r.1.here := by
  unfold evStep
  split
  ·exact W.sat_fail
  ·refine W.sat_bind triv fun g _ => ?_
   split
   ·exact put_here
   ·refine W.sat_bind triv fun r _ => ?_
    cases r
    ·exact put_here
    ·exact put_here
    ·simp only
     split
     ·exact W.sat_bind triv fun _ _ => aft_here
     ·exact W.sat_bind triv fun _ _ => aft_here
    ·exact put_here
    ·exact W.sat_pure trivial
 exact this r ps he hok
/-! ### fewer facts -/
def Sub (n : Nat) (s s0 : St) : Prop :=
 ∀ (G : Nat → AV) μ ro w a, StRel G μ ro w s a → ∃ (μ0 : Nat → Option Loc) (ro0 : Nat → Prop), agree n μ μ0 ∧ (∀ i l, μ0 i = some l → ∃ j m, μ j = some m ∧ m.1 = l.1) ∧ (∀ b, ro b → ro0 b) ∧
  (∀ b, ro0 b → ro b ∨ ∃ i l, μ i = some l ∧ l.1 = b) ∧ StRel G μ0 ro0 w s0 a
theorem Sub.refl {n : Nat} {s : St} : Sub n s s := fun G μ ro w a h => ⟨μ, ro, .refl _ _, fun i l h => ⟨i, l, h, rfl⟩, fun _ h => h, fun _ h => .inl h, h⟩
theorem Sub.trans {n : Nat} {s s1 s2 : St} (h : Sub n s s1) (k : Sub n s1 s2) : Sub n s s2 := fun G μ ro w a hs => by
 obtain ⟨μ1, ro1, h1, h2, h3, h4, h5⟩ := h G μ ro w a hs
 obtain ⟨μ2, ro2, k1, k2, k3, k4, k5⟩ := k G μ1 ro1 w a h5
 refine ⟨μ2, ro2, h1.trans k1, fun i l hi => ?_, fun b hb => k3 b (h3 b hb), fun b hb => ?_, k5⟩
 ·obtain ⟨j, m, hj, e⟩ := k2 i l hi
  obtain ⟨j', m', hj', e'⟩ := h2 j m hj
  exact ⟨j', m', hj', e'.trans e⟩
 ·rcases k4 b hb with h | ⟨i, l, hi, e⟩
  ·exact h4 b h
  ·obtain ⟨j', m', hj', e'⟩ := h2 i l hi
   exact .inr ⟨j', m', hj', e'.trans e⟩
theorem Does.pre {n : Nat} {c : Code} {s s0 s' : St} {e : AEx} (hsub : Sub n s s0) (h : Does P G n c s0 e s') : Does P G n c s e s' := fun μ ro a w hst => by
 obtain ⟨μ0, ro0, h1, h2, h4, h5, h3⟩ := hsub G μ ro w a hst
 refine wp_mono (h μ0 ro0 a w h3) fun e' a' w' ⟨μ', ro', k1, k2, k3⟩ => ⟨μ', ro', ⟨h1.trans k1.ag, fun b hb => k1.up b (h4 b hb), fun b hb => ?_, (k1.fr.weaken h4).pre h2⟩, k2, k3⟩
 rcases k1.nw b hb with h | h | ⟨i, l, q1, q2⟩
 ·exact (h5 b h).imp_right .inr
 ·exact .inr (.inl h)
 ·obtain ⟨j, m, q3, q4⟩ := h2 i l q1
  exact .inr (.inr ⟨j, m, q3, q4.trans q2⟩)
theorem Up.subr {n : Nat} {μ0 : Nat → Option Loc} {ro0 : Nat → Prop} (k1 : Up n μ ro w μ' ro' w') (h1 : agree n μ' μ0) (h2 : ∀ i l, μ0 i = some l → ∃ j m, μ' j = some m ∧ m.1 = l.1) (h4 : ∀ b, ro' b → ro0 b)
  (h5 : ∀ b, ro0 b → ro' b ∨ ∃ i l, μ' i = some l ∧ l.1 = b) : Up n μ ro w μ0 ro0 w' := by
 refine ⟨k1.ag.trans h1, fun b hb => h4 b (k1.up b hb), fun b hb => ?_, ⟨k1.fr.os, k1.fr.tape, k1.fr.output, k1.fr.size, k1.fr.block, k1.fr.rest, fun i l hi => ?_⟩⟩
 ·rcases h5 b hb with h | ⟨i, l, hi, e⟩
  ·exact k1.nw b h
  ·rcases k1.fr.new i l hi with ⟨j, m, hj, hm⟩ | hl
   ·exact .inr (.inr ⟨j, m, hj, hm.trans e⟩)
   ·exact .inr (.inl (e ▸ hl))
 ·obtain ⟨j, m, hj, hm⟩ := h2 i l hi
  rcases k1.fr.new j m hj with ⟨j', m', hj', hm'⟩ | hl
  ·exact .inl ⟨j', m', hj', hm'.trans hm⟩
  ·exact .inr (by omega)
theorem Does.post {n : Nat} {c : Code} {s s1 s' : St} {e : AEx} (he : ∀ v, e ≠ .panic v) (h : Does P G n c s e s1) (hsub : Sub n s1 s') : Does P G n c s e s' := fun μ ro a w hst => by
 refine wp_mono (h μ ro a w hst) fun e' a' w' ⟨μ', ro', k1, k2, k3⟩ => ?_
 obtain ⟨μ0, ro0, h1, h2, h4, h5, h3⟩ := hsub G μ' ro' w' a' k3
 refine ⟨μ0, ro0, k1.subr h1 h2 h4 h5, ?_, h3⟩
 cases e with
 | panic v => exact absurd rfl (he v)
 | _ => cases e' <;> first | exact k2 | exact k2.elim
end
noncomputable section
open Go.RowKit
variable {P : Program} {G : Nat → AV} {μ μ' : Nat → Option Loc} {ro ro' : Nat → Prop} {w w' : World}
def memN (x : Nat) : List Nat → Bool
 | [] => false
 | y :: l => match Nat.beq x y with | true => true | false => memN x l
theorem memN_iff {x : Nat} : ∀ {l : List Nat}, memN x l = true ↔ x ∈ l
 | [] => by simp [memN]
 | y :: l => by
  simp only [memN, List.mem_cons]
  cases h : Nat.beq x y with
  | true => simp [Nat.eq_of_beq_eq_true h]
  | false =>
   have : x ≠ y := Nat.ne_of_beq_eq_false h
   simp [this, memN_iff]
theorem memN_cons {x y : Nat} {l : List Nat} : memN x (y :: l) = if x = y then true else memN x l := by
 show (match Nat.beq x y with | true => true | false => memN x l) = _
 cases h : Nat.beq x y with
 | true => rw [if_pos (Nat.eq_of_beq_eq_true h)]
 | false => rw [if_neg (Nat.ne_of_beq_eq_false h)]
def rho (r : List Nat) (i : Nat) : Nat := r.getD i 0
def ren (r : List Nat) : Nat → AV → AV
 | 0, v => match v with | .ptr i o => .ptr (rho r i) o | .sl i o l c e z => .sl (rho r i) o l c e z | .vec i n z => .vec (rho r i) n z | .mapr i => .mapr (rho r i) | v => v
 | k + 1, v => match v with | .ptr i o => .ptr (rho r i) o | .sl i o l c e z => .sl (rho r i) o l c e z | .vec i n z => .vec (rho r i) n z | .mapr i => .mapr (rho r i) | .agg c => .agg (c.map (ren r k)) | .tup c => .tup (c.map (ren r k)) | .fn f a c => .fn f (a.map (ren r k)) (c.map (ren r k)) | .ifc t v => .ifc t (ren r k v) | v => v
def shal (m : Nat) : Nat → AV → Bool
 | 0, v => match v with | .ptr i _ => Nat.blt i m | .sl i _ _ _ _ _ => Nat.blt i m | .vec i _ _ => Nat.blt i m | .mapr i => Nat.blt i m | v => v.pl1
 | k + 1, v => match v with | .ptr i _ => Nat.blt i m | .sl i _ _ _ _ _ => Nat.blt i m | .vec i _ _ => Nat.blt i m | .mapr i => Nat.blt i m | .agg c => c.all (shal m k) | .tup c => c.all (shal m k) | .fn _ a c => a.all (shal m k) && c.all (shal m k) | .ifc _ v => shal m k v | v => v.pl1
theorem pl1_mu {μ'' : Nat → Option Loc} {v : AV} {x : Value} {o : Bool} (h : Rep μ ro w o v x) (hp : v.pl1 = true) : Rep μ'' ro w o v x := by
 have := (h.pl1 (o' := false) hp).any_mu (μ'' := μ'')
 cases o
 ·exact this
 ·exact this.up
theorem ren_rep {r : List Nat} (hμ : ∀ i, i < r.length → μ' i = μ (rho r i)) : ∀ (k : Nat) {o : Bool} {v : AV} {x : Value}, shal r.length k v = true → Rep μ ro w o (ren r k v) x → Rep μ' ro w o v x
 | 0, o, v, x, hs, h => by
  cases v <;> simp only [shal] at hs <;> simp only [ren] at h
  case ptr i f => cases h with | ptr h => exact .ptr ((hμ i (nB hs)).trans h)
  case mapr i => cases h with | mapr h => exact .mapr ((hμ i (nB hs)).trans h)
  case sl => cases h with | sl h h1 h2 h3 => exact .sl ((hμ _ (nB hs)).trans h) h1 h2 h3
  case vec => cases h with
   | vec h h1 h3 => exact .vec ((hμ _ (nB hs)).trans h) h1 h3
   | vecn => exact .vecn
  all_goals exact pl1_mu h hs
 | k + 1, o, v, x, hs, h => by
  cases v <;> simp only [shal] at hs <;> simp only [ren] at h
  case ptr i f => cases h with | ptr h => exact .ptr ((hμ i (nB hs)).trans h)
  case mapr i => cases h with | mapr h => exact .mapr ((hμ i (nB hs)).trans h)
  case sl => cases h with | sl h h1 h2 h3 => exact .sl ((hμ _ (nB hs)).trans h) h1 h2 h3
  case vec => cases h with
   | vec h h1 h3 => exact .vec ((hμ _ (nB hs)).trans h) h1 h3
   | vecn => exact .vecn
  case agg c =>
   cases h with
   | agg hn hr =>
    refine .agg (by simpa using hn) fun i hi => ren_rep hμ k (all_get hs hi) ?_
    have := hr i (by simpa using hi)
    rwa [map_get hi] at this
  case tup c =>
   cases h with
   | tup hn hr =>
    refine .tup (by simpa using hn) fun i hi => ren_rep hμ k (all_get hs hi) ?_
    have := hr i (by simpa using hi)
    rwa [map_get hi] at this
  case ifc t v => cases h with | ifc h => exact .ifc (ren_rep hμ k hs h)
  case fn f a c =>
   simp only [Bool.and_eq_true] at hs
   cases h with
   | fn hn hr hm hs' =>
    refine .fn (by simpa using hn) (fun i hi => ren_rep hμ k (all_get hs.1 hi) ?_) (by simpa using hm) fun i hi => ren_rep hμ k (all_get hs.2 hi) ?_
    ·have := hr i (by simpa using hi)
     rwa [map_get hi] at this
    ·have := hs' i (by simpa using hi)
     rwa [map_get hi] at this
  all_goals exact pl1_mu h hs
def renB (r : List Nat) (b : Blk) : Blk := { b with c := match b.pl with | true => b.c | false => b.c.map (ren r 6) }
def shalB (m : Nat) (b : Blk) : Bool := b.pl || b.c.all (shal m 6)
def nodupB : List Nat → Bool
 | [] => true
 | x :: l => !memN x l && nodupB l
theorem nodupB_inj : ∀ {l : List Nat}, nodupB l = true → ∀ i j, i < l.length → j < l.length → rho l i = rho l j → i = j
 | [], _, i, _, h, _, _ => by simp at h
 | x :: l, hb, i, j, hi, hj, e => by
  simp only [nodupB, Bool.and_eq_true, Bool.not_eq_true'] at hb
  have no : ∀ k, k < l.length → rho l k ≠ x := fun k hk he => by
   have : x ∈ l := by rw [← he]; unfold rho; rw [List.getD_eq_getElem?_getD, List.getElem?_eq_getElem hk]; exact List.getElem_mem hk
   rw [memN_iff.2 this] at hb; cases hb.1
  cases i with
  | zero =>
   cases j with
   | zero => rfl
   | succ j => exact absurd e.symm (no j (by simpa using hj))
  | succ i =>
   cases j with
   | zero => exact absurd e (no i (by simpa using hi))
   | succ j => rw [nodupB_inj hb.2 i j (by simpa using hi) (by simpa using hj) e]
def blkEqs (m : Tr Ob) (r : List Nat) : List Nat → List Blk → Prop
 | i :: l, b :: bs => m.get i = some (renB r b).ob ∧ blkEqs m r l bs
 | [], [] => True
 | _, _ => False
theorem blkEqs_get {m : Tr Ob} {r : List Nat} : ∀ {l : List Nat} {bs : List Blk}, blkEqs m r l bs → l.length = bs.length ∧ ∀ i b, bs[i]? = some b → m.get (rho l i) = some (renB r b).ob
 | [], [], _ => ⟨rfl, fun i b h => by simp at h⟩
 | i :: l, b :: bs, ⟨h1, h2⟩ => by
  obtain ⟨h3, h4⟩ := blkEqs_get h2
  refine ⟨by simp [h3], fun k b' hb => ?_⟩
  cases k with
  | zero => simp only [List.getElem?_cons_zero, sJ] at hb; subst hb; exact h1
  | succ k => exact h4 k b' (by simpa using hb)
 | [], _ :: _, h => h.elim
 | _ :: _, [], h => h.elim
theorem Ents.any_mu {kd : KK} {es : List (AV × AV)} {ms : List MapEntry} (h : Ents kd μ ro w es ms) : Ents kd μ' ro w es ms := by
 induction h with
 | nil => exact .nil
 | cons hk hv _ ih => exact .cons hk hv.any_mu ih
theorem ObRel.it_mu {b : Loc} {t : It} (h : ObRel μ ro w b t.ob) : ObRel μ' ro w b t.ob := by
 cases t with
 | str s p => exact h
 | map kd es => obtain ⟨ms, cl, p, h1, h2, h3, h4⟩ := h; exact ⟨ms, cl, p, h1, h2, h3.any_mu, h4⟩
 | rm m kd es ms cl => obtain ⟨h0, h1, h3, h4⟩ := h; exact ⟨h0, h1, h3.any_mu, h4⟩
 | mit m a b c => exact h
theorem HpRel.ren {h : Hp} {r : List Nat} {blks : List Blk} (hh : HpRel μ ro h w) (hb : blkEqs h.m r r blks) (hn : nodupB r = true) (hs : blks.all (shalB r.length) = true)
  (hμ : ∀ i, i < r.length → μ' i = μ (rho r i)) (hμ0 : ∀ i, r.length ≤ i → μ' i = none) : HpRel μ' ro (hpOf blks ⟨.e, 0⟩) w := by
 obtain ⟨hl, hget⟩ := blkEqs_get hb
 have hin : ∀ i k, (hpOf blks ⟨.e, 0⟩).m.get i = some k → i < r.length ∧ ∃ b, blks[i]? = some b ∧ k = b.ob := fun i k hk => by
  rw [(hpOf_get blks ⟨.e, 0⟩ i).2] at hk
  split at hk
  ·rename_i hc
   simp only [Nat.zero_add] at hc
   simp only [Nat.sub_zero, Option.map_eq_some_iff] at hk
   obtain ⟨b, h1, rfl⟩ := hk
   exact ⟨by rw [hl]; exact hc.2, b, h1, rfl⟩
  ·simp [Tr.get] at hk
 refine ⟨fun i k hk => ?_, fun i j k l b c hi hj hbi hbj e => ?_, fun i k b hi hbi => ?_, fun i b hi => ?_, hh.old, fun i hi => ?_⟩
 ·obtain ⟨h1, b, h2, rfl⟩ := hin i k hk
  cases hit : b.it with
  | some sp =>
   have e1 : (renB r b).ob = sp.ob := by simp [Blk.ob, renB, hit]
   have e2 : b.ob = sp.ob := by simp [Blk.ob, hit]
   have hg := hget i b h2
   rw [e1] at hg
   obtain ⟨l, h3, h4⟩ := hh.obsT _ _ hg
   rw [e2]
   exact .inl ⟨l, (hμ i h1).trans h3, h4.it_mu⟩
  | none =>
  have e1 : (renB r b).ob = .blk (renB r b) := by simp [Blk.ob, renB, hit]
  have e2 : b.ob = .blk b := by simp [Blk.ob, hit]
  have hg := hget i b h2
  rw [e1] at hg
  rw [e2]
  rcases hh.obs _ _ hg with ⟨l, h3, h4⟩ | ⟨q1, q2, q3⟩
  rotate_left
  ·refine .inr ⟨(hμ i h1).trans q1, ⟨q2.1, ?_⟩, by rw [(hpOf_get blks ⟨.e, 0⟩ 0).1]; simp only [Nat.zero_add]; omega⟩
   have := q2.2
   simp only [renB] at this
   split at this
   ·exact this
   ·exact List.map_eq_nil_iff.1 this
  refine .inl ⟨l, (hμ i h1).trans h3, ?_⟩
  obtain ⟨cs, fr, g1, g0, g2, g3, g4, g5⟩ := h4.get
  have hsb : shalB r.length b = true := by rw [List.all_eq_true] at hs; exact hs b (List.mem_of_getElem? h2)
  cases hp : b.pl with
  | true =>
   have hc : (renB r b).c = b.c := by simp [renB, hp]
   rw [hc] at g2 g3 g5
   refine ⟨⟨cs, fr, g1, g0, g2, g3, g4, fun j hj => ?_⟩⟩
   have := g5 j hj
   simp only [renB, hp, Bool.not_true] at this ⊢
   exact this.any_mu
  | false =>
   have hc : (renB r b).c = b.c.map (Go.Proofs.YtpadimnchmghpaaGreatDoor.Av.ren r 6) := by simp [renB, hp]
   rw [hc] at g2 g3 g5
   simp only [List.length_map] at g2 g3 g5
   refine ⟨⟨cs, fr, g1, g0, g2, g3, g4, fun j hj => ?_⟩⟩
   have := g5 j hj
   rw [map_get hj] at this
   simp only [renB, hp, Bool.not_false] at this ⊢
   simp only [shalB, hp, Bool.false_or] at hsb
   exact ren_rep hμ 6 (all_get hsb hj) this
 ·obtain ⟨h1, x, h2, rfl⟩ := hin i k hi
  obtain ⟨h3, y, h4, rfl⟩ := hin j l hj
  rw [hμ i h1] at hbi
  rw [hμ j h3] at hbj
  exact nodupB_inj hn i j h1 h3 (hh.inj _ _ _ _ b c (hget i x h2) (hget j y h4) hbi hbj e)
 ·obtain ⟨h1, x, h2, rfl⟩ := hin i k hi
  rw [hμ i h1] at hbi
  exact hh.own _ _ b (hget i x h2) hbi
 ·by_cases hc : i < r.length
  ·rw [hμ i hc] at hi; exact hh.lt _ b hi
  ·rw [hμ0 i (by omega)] at hi; cases hi
 ·rw [(hpOf_get blks ⟨.e, 0⟩ i).1] at hi
  simp only [Nat.zero_add] at hi
  exact hμ0 i (by omega)
def muOf (r : List Nat) (μ : Nat → Option Loc) (i : Nat) : Option Loc := if i < r.length then μ (rho r i) else none
/-! ### states in their plain form -/
def putTms : List (Nat × AV) → Tr AV → Tr AV
 | [], t => t
 | (k, v) :: l, t => (putTms l t).put k (some v)
def S (nt : Nat) (tms : List (Nat × AV)) (blks : List Blk) : St := ⟨putTms tms .e, nt, hpOf blks ⟨.e, 0⟩, []⟩
def tmEqs (t : Tr AV) (r : List Nat) : List (Nat × AV) → Prop
 | [] => True
 | (k, v) :: l => t.get k = some (ren r 4 v) ∧ tmEqs t r l
theorem tmEqs_get {t : Tr AV} {r : List Nat} : ∀ {l : List (Nat × AV)} {k : Nat} {v : AV}, tmEqs t r l → (putTms l .e).get k = some v → t.get k = some (ren r 4 v) ∧ ∃ x ∈ l, x.2 = v
 | [], k, v, _, h => by simp [putTms, Tr.get] at h
 | (k0, v0) :: l, k, v, ⟨h1, h2⟩, h => by
  simp only [putTms, Tr.get_put] at h
  split at h
  ·rename_i e
   simp only [sJ] at h
   subst h; subst e
   exact ⟨h1, _, List.mem_cons_self .., rfl⟩
  ·obtain ⟨h3, x, h4, h5⟩ := tmEqs_get h2 h
   exact ⟨h3, x, List.mem_cons_of_mem _ h4, h5⟩
theorem Sub.of_renM {s : St} {nt : Nat} {tms : List (Nat × AV)} {blks : List Blk} (ρ : List Nat) (hnt : s.nt = nt) (hdf : s.df = []) (ht : tmEqs s.tm ρ tms) (hb : blkEqs s.hp.m ρ ρ blks)
  (hc : (nodupB ρ && blks.all (shalB ρ.length) && tms.all fun x => shal ρ.length 4 x.2) = true) (m : Nat) (hm : ∀ i, i < m → i < ρ.length ∧ rho ρ i = i) : Sub m s (S nt tms blks) := by
 intro G μ ro w a hst
 simp only [Bool.and_eq_true] at hc
 refine ⟨muOf ρ μ, ro, fun i hi => by unfold muOf; rw [if_pos (hm i hi).1, (hm i hi).2], fun i l hi => ?_, fun _ h => h, fun _ h => .inl h, ⟨fun t v hv => ?_, hst.nt.trans hnt, hst.hp.ren hb hc.1.1 hc.1.2 (fun i hi => if_pos hi) (fun i hi => if_neg (by omega)), hst.gl.any, ?_⟩⟩
 ·unfold muOf at hi
  split at hi
  ·exact ⟨_, l, hi, rfl⟩
  ·cases hi
 ·obtain ⟨h1, x, h2, rfl⟩ := tmEqs_get ht hv
  have h3 := hc.2
  rw [List.all_eq_true] at h3
  exact ren_rep (fun i hi => if_pos hi) 4 (h3 x h2) (hst.tm t _ h1)
 ·have := hst.df
  rw [hdf] at this
  cases hq : a.defers with
  | nil => trivial
  | cons x y => rw [hq] at this; exact this.elim
theorem Sub.of_ren {s : St} {nt : Nat} {tms : List (Nat × AV)} {blks : List Blk} (ρ : List Nat) (hnt : s.nt = nt) (hdf : s.df = []) (ht : tmEqs s.tm ρ tms) (hb : blkEqs s.hp.m ρ ρ blks)
  (hc : (nodupB ρ && blks.all (shalB ρ.length) && tms.all fun x => shal ρ.length 4 x.2) = true) : Sub 0 s (S nt tms blks) := Sub.of_renM ρ hnt hdf ht hb hc 0 (fun i hi => absurd hi (Nat.not_lt_zero i))
def idM (ρ : List Nat) (m : Nat) : Bool := (List.range m).all fun i => Nat.blt i ρ.length && Nat.beq (rho ρ i) i
theorem idM_spec {ρ : List Nat} {m : Nat} (h : idM ρ m = true) : ∀ i, i < m → i < ρ.length ∧ rho ρ i = i := fun i hi => by
 unfold idM at h
 rw [List.all_eq_true] at h
 have := h i (List.mem_range.2 hi)
 simp only [Bool.and_eq_true] at this
 exact ⟨nB this.1, Nat.eq_of_beq_eq_true this.2⟩
def okS (ρ : List Nat) (tms : List (Nat × AV)) (blks : List Blk) : Bool := nodupB ρ && blks.all (shalB ρ.length) && tms.all fun x => shal ρ.length 4 x.2
def okR (ρ : List Nat) (r : AV) (blks : List Blk) : Bool := nodupB ρ && blks.all (shalB ρ.length) && shal ρ.length 4 r
def oweT (t : Tr AV) (r : List Nat) : List (Nat × AV) → W Unit
 | [] => W.pure ()
 | (k, v) :: l => match t.get k with | some v' => (W.owe (v' = ren r 4 v)).bind fun _ => oweT t r l | none => W.fail
theorem oweT_sat {t : Tr AV} {r : List Nat} : ∀ {l : List (Nat × AV)}, (oweT t r l).sat fun _ => tmEqs t r l
 | [] => W.sat_pure trivial
 | (k, v) :: l => by
  unfold oweT
  split
  ·rename_i v' hv
   refine W.sat_bind W.sat_owe fun _ h1 => W.sat_mono oweT_sat fun _ h2 => ⟨?_, h2⟩
   rw [hv, h1]
  ·exact W.sat_fail
def oweB (m : Tr Ob) (r : List Nat) : List Nat → List Blk → W Unit
 | [], [] => W.pure ()
 | i :: l, b :: bs => match m.get i, b.it with | some (.blk b'), none => (W.owe (b' = renB r b)).bind fun _ => oweB m r l bs | some (.iter s p), some (.str s' p') => (W.owe (s = s' ∧ p = p')).bind fun _ => oweB m r l bs | some (.map kd es), some (.map kd' es') => (W.owe (kd = kd' ∧ es = es')).bind fun _ => oweB m r l bs | some (.rm m1 kd es ms cl), some (.rm m1' kd' es' ms' cl') => (W.owe (Ob.rm m1 kd es ms cl = .rm m1' kd' es' ms' cl')).bind fun _ => oweB m r l bs | some (.mit m1 a1 b1 c1), some (.mit m1' a1' b1' c1') => (W.owe (Ob.mit m1 a1 b1 c1 = .mit m1' a1' b1' c1')).bind fun _ => oweB m r l bs | _, _ => W.fail
 | _, _ => W.fail
theorem oweB_sat {m : Tr Ob} {r : List Nat} : ∀ {l : List Nat} {bs : List Blk}, (oweB m r l bs).sat fun _ => blkEqs m r l bs
 | [], [] => W.sat_pure trivial
 | i :: l, b :: bs => by
  unfold oweB
  split
  ·rename_i b' hm hit
   refine W.sat_bind W.sat_owe fun _ h1 => W.sat_mono oweB_sat fun _ h2 => ⟨?_, h2⟩
   have e1 : (renB r b).ob = .blk (renB r b) := by simp [Blk.ob, renB, hit]
   rw [e1, hm, h1]
  ·rename_i s p s' p' hm hit
   refine W.sat_bind W.sat_owe fun _ h1 => W.sat_mono oweB_sat fun _ h2 => ⟨?_, h2⟩
   have e1 : (renB r b).ob = .iter s' p' := by simp [Blk.ob, renB, hit, It.ob]
   rw [e1, hm, h1.1, h1.2]
  ·rename_i kd es kd' es' hm hit
   refine W.sat_bind W.sat_owe fun _ h1 => W.sat_mono oweB_sat fun _ h2 => ⟨?_, h2⟩
   have e1 : (renB r b).ob = .map kd' es' := by simp [Blk.ob, renB, hit, It.ob]
   rw [e1, hm, h1.1, h1.2]
  ·rename_i m1 kd es ms cl m1' kd' es' ms' cl' hm hit
   refine W.sat_bind W.sat_owe fun _ h1 => W.sat_mono oweB_sat fun _ h2 => ⟨?_, h2⟩
   have e1 : (renB r b).ob = .rm m1' kd' es' ms' cl' := by simp [Blk.ob, renB, hit, It.ob]
   rw [e1, hm, h1]
  ·rename_i m1 a1 b1 c1 m1' a1' b1' c1' hm hit
   refine W.sat_bind W.sat_owe fun _ h1 => W.sat_mono oweB_sat fun _ h2 => ⟨?_, h2⟩
   have e1 : (renB r b).ob = .mit m1' a1' b1' c1' := by simp [Blk.ob, renB, hit, It.ob]
   rw [e1, hm, h1]
  ·exact W.sat_fail
 | [], _ :: _ => W.sat_fail
 | _ :: _, [] => W.sat_fail
def aSub (n : Nat) (s : St) (ρ : List Nat) (tms : List (Nat × AV)) (blks : List Blk) : W Unit :=
 match n, s.df, okS ρ tms blks with
 | 0, [], true => (oweT s.tm ρ tms).bind fun _ => oweB s.hp.m ρ ρ blks
 | _, _, _ => W.fail
theorem aSub_sat {n : Nat} {s : St} {ρ : List Nat} {tms : List (Nat × AV)} {blks : List Blk} : (aSub n s ρ tms blks).sat fun _ => Sub n s (S s.nt tms blks) := by
 unfold aSub
 split
 ·rename_i hd hc
  exact W.sat_bind oweT_sat fun _ h1 => W.sat_mono oweB_sat fun _ h2 => Sub.of_ren ρ rfl hd h1 h2 hc
 ·exact W.sat_fail
end
end Go.Proofs.YtpadimnchmghpaaGreatDoor.Av
