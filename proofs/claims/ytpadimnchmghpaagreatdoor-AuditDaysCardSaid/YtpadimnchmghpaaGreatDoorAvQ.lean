import Derived.Test.YtpadimnchmghpaaGreatDoorAvP3
open Prod (fst)
open Int (tdiv tmod)
set_option linter.unusedVariables false
set_option linter.unusedSimpArgs false
namespace Go.Proofs.YtpadimnchmghpaaGreatDoor.Av
open Go.RowKit
variable {P : Program} {G : Nat → AV} {μ μ' : Nat → Option Loc} {ro ro' : Nat → Prop} {w w' : World}
/-! ### a list of operations -/
def evOps (P : Program) (G : Nat → AV) (n : Nat) (callB : CallB) (ops : Array Oper) : List Nat → St → List CH → W (AEx × St × List CH)
 | [], s, hs => W.pure (.normal, s, hs)
 | i :: l, s, hs =>
  (evTrs s hs).bind fun q =>
  match Nat.ble n q.1.hp.nx with
  | true => (evStep P G callB ops i q.1 q.2).bind fun r => match r.1 with | .normal => evOps P G n callB ops l r.2.1 r.2.2 | e => W.pure (e, r.2.1, r.2.2)
  | false => W.fail
theorem evOps_sat {callB : CallB} (hcall : ∀ f args h hs, (callB f args h hs).sat fun r => CallDoes P G f args h r.1 r.2.1) {ops : Array Oper} {n : Nat} : ∀ (l : List Nat) (s : St) (hs : List CH),
  (evOps P G n callB ops l s hs).sat fun r => ∀ μ ro a w (Q : Exit → Act → World → Prop), StRel G μ ro w s a → (∀ e' a' w', Post n G μ ro w r.1 r.2.1 e' a' w' → Q e' a' w') → wpOps P ops Q l a w
 | [], s, hs => W.sat_pure fun μ ro a w Q hst hq => hq .normal a w ⟨μ, ro, .refl _ _ _ _, trivial, hst⟩
 | i :: l, s, hs => by
  unfold evOps
  refine W.sat_bind (evTrs_sat (n := n) hs s) fun q hsub => ?_
  split
  ·rename_i hn
   have hn' := nB hn
   refine W.sat_bind (evStep_sat hcall) fun r ⟨hr, hhere⟩ => ?_
   obtain ⟨e, s1, hs1⟩ := r
   simp only at hr hhere ⊢
   cases e with
   | normal =>
    refine W.sat_mono (evOps_sat hcall l s1 hs1) fun r2 h2 μ ro a w Q hst hq => ?_
    obtain ⟨μ0, ro0, q1, q2, q3, q4, hst0⟩ := hsub G μ ro w a hst
    have hup0 := (Up.refl n μ ro w).subr q1 q2 q3 q4
    rw [wpOps_cons]
    refine hr μ0 ro0 a w Q _ hst0 fun μ' ro' a' w' hup hst' => ⟨fun _ _ => h2 μ' ro' a' w' Q hst' fun e' a'' w'' hp => hq e' a'' w'' (Post.trans (hup0.trans (hup.mono hn')) hp), fun v x hv => (by cases hv)⟩
   | panic v =>
    refine W.sat_pure fun μ ro a w Q hst hq => ?_
    obtain ⟨μ0, ro0, q1, q2, q3, q4, hst0⟩ := hsub G μ ro w a hst
    have hup0 := (Up.refl n μ ro w).subr q1 q2 q3 q4
    rw [wpOps_cons]
    refine hr μ0 ro0 a w Q _ hst0 fun μ' ro' a' w' hup hst' => ⟨fun hv => (by cases hv), fun v' x hv hx => ?_⟩
    cases hv
    exact hq _ a' w' ⟨μ', ro', hup0.trans (hup.mono hn'), hx, hst'⟩
   | exit id => exact hhere.elim
   | ret => exact hhere.elim
  ·exact W.sat_fail
/-! ### results -/
def aRes1 (P : Program) (s : St) : ResultVar → W AV
 | .tmp t => W.pure (opd (fun _ => .any) s (.tmp t))
 | .cell a t => aLoad P .a t (opd (fun _ => .any) s (.tmp a)) s.hp
def aResL (P : Program) (s : St) : List ResultVar → W (List AV)
 | [] => W.pure []
 | r :: l => (aRes1 P s r).bind fun v => (aResL P s l).bind fun vs => W.pure (v :: vs)
def aRes (P : Program) (s : St) (l : List ResultVar) : W AV :=
 (aResL P s l).bind fun vs => match vs with | [v] => W.pure v | vs => W.pure (.tup vs)
def res1 (tmps : Array Value) : ResultVar → Sem Value
 | .tmp t => pure (tmps.getD t undef)
 | .cell a t => do loadVar t (← asAddr (tmps.getD a undef))
theorem opd_tmp {s : St} {a : Act} (h : StRel G μ ro w s a) (t : Tmp) : Rep μ ro w true (opd (fun _ => .any) s (.tmp t)) (a.tmps.getD t undef) := by
 have := opd_rep h (.tmp t)
 simp only [opd, Act.eval] at this ⊢
 cases hg : s.tm.get t with
 | none => exact .any
 | some v => exact h.tm t v hg
theorem aRes1_sat {s : St} {a : Act} (h : StRel G μ ro w s a) (r : ResultVar) : (aRes1 P s r).sat fun v => ∃ v', (res1 a.tmps r).run P w = .ok v' w ∧ Rep μ ro w true v v' := by
 cases r with
 | tmp t => exact W.sat_pure ⟨_, rfl, opd_tmp h t⟩
 | cell p t =>
  refine W.sat_mono (aLoad_sat (opd_tmp h p) h.hp) fun v ⟨v', h1, h2⟩ => ⟨v', ?_, h2⟩
  simp only [res1]
  generalize a.tmps.getD p undef = x at h1 ⊢
  cases x with
  | pointer q =>
   cases q with
   | some q => exact h1
   | none => exact absurd h1 (by simp [Instr.loadAt, Instr.sureAddr, Sem.run_bind, Result.andThen, stuck])
  | _ => exact absurd h1 (by simp [Instr.loadAt, Instr.sureAddr, Sem.run_bind, Result.andThen, stuck])
theorem aResL_sat {s : St} {a : Act} (h : StRel G μ ro w s a) : ∀ l : List ResultVar, (aResL P s l).sat fun vs => ∃ xs, (l.mapM (res1 a.tmps)).run P w = .ok xs w ∧ Reps μ ro w true vs xs
 | [] => W.sat_pure ⟨[], by simp, Reps.nil⟩
 | r :: l => W.sat_bind (aRes1_sat h r) fun v ⟨x, h1, h2⟩ => W.sat_bind (aResL_sat h l) fun vs ⟨xs, h3, h4⟩ => W.sat_pure ⟨x :: xs, by simp [List.mapM_cons, h1, h3, Result.andThen], Reps.cons h2 h4⟩
theorem aRes_sat {s : St} {a : Act} {fn : Func} (h : StRel G μ ro w s a) : (aRes P s fn.results.toList).sat fun v => ∃ x, (results fn a.tmps).run P w = .ok x w ∧ Rep μ ro w true v x := by
 refine W.sat_bind (aResL_sat h _) fun vs ⟨xs, h1, h2⟩ => ?_
 have hr : ∀ x, (if h : xs.toArray.size = 1 then xs.toArray[0] else Value.tuple xs.toArray) = x → (results fn a.tmps).run P w = .ok x w := fun x hx => by
  have e : results fn a.tmps = (fn.results.mapM (res1 a.tmps) >>= fun vs => pure (if h : vs.size = 1 then vs[0] else .tuple vs)) := by
   unfold results
   congr 1
  rw [e]
  generalize fn.results = rs at h1 ⊢
  obtain ⟨l⟩ := rs
  simp only [List.mapM_toArray, Sem.run_bind] at h1 ⊢
  simp [h1, Result.andThen] at hx ⊢
  exact hx
 have hl := h2.1
 split
 ·rename_i v
  obtain ⟨x, rest, rfl, h3, h4⟩ := h2.head
  have : rest = [] := List.length_eq_zero_iff.1 (by simpa using h4.1)
  subst this
  exact W.sat_pure ⟨x, hr _ (by simp), h3⟩
 ·rename_i hne
  refine W.sat_pure ⟨.tuple xs.toArray, hr _ ?_, h2.tup⟩
  rw [dif_neg]
  intro h1
  simp only [List.size_toArray] at h1
  rw [h1] at hl
  match vs, hl with
  | [v], _ => exact hne v rfl
/-! ### code and bodies -/
abbrev Self := Nat → Code → St → List CH → W (AEx × St × List CH)
def putArgs : List AV → Nat → Tr AV → Tr AV
 | [], _, t => t
 | v :: l, i, t => putArgs l (i + 1) (t.put i (some v))
theorem putArgs_get : ∀ (l : List AV) (i : Nat) (t : Tr AV) (j : Nat), (putArgs l i t).get j = if i ≤ j ∧ j < i + l.length then some (l.getD (j - i) .any) else t.get j
 | [], i, t, j => by simp [putArgs]; intro h1 h2; omega
 | v :: l, i, t, j => by
  simp only [putArgs, putArgs_get l, List.length_cons, Tr.get_put]
  by_cases h : i + 1 ≤ j ∧ j < i + 1 + l.length
  ·rw [if_pos h, if_pos (by omega), show j - i = (j - (i + 1)) + 1 by omega]
   simp
  ·rw [if_neg h]
   by_cases e : j = i
   ·subst e; simp
   ·rw [if_neg e, if_neg (by omega)]
def selfT (self : Self) (n : Nat) (c : Code) (s : St) (hs : List CH) : W (AEx × St × List CH) :=
 (self n c s hs).bind fun r => match r.1 with | .panic v => W.pure (.panic v, r.2) | e => (evTrs r.2.1 r.2.2).bind fun q => W.pure (e, q)
def evBody (P : Program) (self : Self) (f : FuncId) (args : List AV) (h : Hp) (hs : List CH) : W (CO × Hp × List CH) :=
 match P.funcs[f]? with
 | none => W.fail
 | some fn =>
  match fn.body with
  | none => W.fail
  | some c =>
   (selfT self h.nx c ⟨putArgs args 0 .e, args.length + (fn.ntmps - args.length), h, []⟩ hs).bind fun r =>
    match r.1, r.2.1.df with
    | .normal, [] => (aRes P r.2.1 fn.results.toList).bind fun v => W.pure (.ret v, r.2.1.hp, r.2.2)
    | .ret, [] => (aRes P r.2.1 fn.results.toList).bind fun v => W.pure (.ret v, r.2.1.hp, r.2.2)
    | .panic v, [] => W.pure (.pan v, r.2.1.hp, r.2.2)
    | _, _ => W.fail
theorem start_rel {args : List AV} {vs : Array Value} {k : Nat} {h : Hp} (ha : Reps μ ro w true args vs.toList) (hh : HpRel μ ro h w) (hg : GlRel G μ ro w) :
  StRel G μ ro w ⟨putArgs args 0 .e, args.length + (k - args.length), h, []⟩ { tmps := vs ++ Array.replicate (k - vs.size) undef, defers := [] } := by
 have hl : vs.size = args.length := by simpa using ha.1
 refine ⟨fun t v ht => ?_, by simp [hl], hh, hg, trivial⟩
 simp only [putArgs_get] at ht
 split at ht
 ·rename_i hc
  simp only [sJ] at ht
  subst ht
  have h1 : t < args.length := by omega
  have := ha.2 t h1
  simp only [Nat.sub_zero]
  have e : (vs ++ Array.replicate (k - vs.size) undef).getD t undef = vs.toList.getD t undef := by
   simp [Array.getElem?_append, hl, h1]
  rw [e]
  exact this
 ·simp [Tr.get] at ht
def SelfOk (P : Program) (G : Nat → AV) (self : Self) : Prop := ∀ n c s hs, (self n c s hs).sat fun r => Does P G n c s r.1 r.2.1
theorem selfT_ok {self : Self} (h : SelfOk P G self) : SelfOk P G (selfT self) := fun n c s hs => by
 refine W.sat_bind (h n c s hs) fun r hr => ?_
 obtain ⟨e, s1, hs1⟩ := r
 cases e with
 | panic v => exact W.sat_pure hr
 | _ => exact W.sat_bind (evTrs_sat hs1 s1) fun q hq => W.sat_pure (hr.post (by intro v h; cases h) hq)
theorem evBody_sat {self : Self} (hself : SelfOk P G self) (f : FuncId) (args : List AV) (h : Hp) (hs : List CH) :
  (evBody P self f args h hs).sat fun r => CallDoes P G f args h r.1 r.2.1 := by
 intro r ps he hok μ ro w vs ha hh hg
 have : (evBody P self f args h hs).sat fun r => Calls P f vs w (CPost h.nx μ ro w r.1 r.2.1) := by
  unfold evBody
  split
  ·exact W.sat_fail
  ·rename_i fn hf
   split
   ·exact W.sat_fail
   ·rename_i c hb
    refine W.sat_bind (Q := fun x => Does P G h.nx c _ x.1 x.2.1) (selfT_ok hself _ _ _ _) fun x hx => ?_
    intro r ps he hok
    refine calls_of_wp hf hb (wp_mono (hx μ ro _ w (start_rel ha hh hg)) fun e a w1 hp => ?_)
    obtain ⟨μ', ro', h1, h2, h3⟩ := hp
    obtain ⟨e0, s', hs'⟩ := x
    simp only at h2 h3 he
    split at he
    ·rename_i e1 e2 hd
     have hdf : a.defers = [] := by
      have := h3.df
      rw [hd] at this
      cases hq : a.defers with
      | nil => rfl
      | cons x y => rw [hq] at this; exact this.elim
     cases e <;> simp only [ExRel] at h2
     have := W.sat_bind (aRes_sat (fn := fn) h3) (R := fun r : CO × Hp × List CH => ∃ x, (results fn a.tmps).run P w1 = .ok x w1 ∧ CoRel μ' ro' w1 r.1 (.returned x) ∧ r.2.1 = s'.hp) (fun v ⟨x, h4, h5⟩ => W.sat_pure (a := (CO.ret v, s'.hp, hs')) ⟨x, h4, h5, rfl⟩) r ps he hok
     obtain ⟨x, h4, h5, h6⟩ := this
     exact ⟨hdf, x, h4, μ', ro', h1, h5, h6 ▸ h3.hp⟩
    ·rename_i e1 e2 hd
     have hdf : a.defers = [] := by
      have := h3.df
      rw [hd] at this
      cases hq : a.defers with
      | nil => rfl
      | cons x y => rw [hq] at this; exact this.elim
     cases e <;> simp only [ExRel] at h2
     have := W.sat_bind (aRes_sat (fn := fn) h3) (R := fun r : CO × Hp × List CH => ∃ x, (results fn a.tmps).run P w1 = .ok x w1 ∧ CoRel μ' ro' w1 r.1 (.returned x) ∧ r.2.1 = s'.hp) (fun v ⟨x, h4, h5⟩ => W.sat_pure (a := (CO.ret v, s'.hp, hs')) ⟨x, h4, h5, rfl⟩) r ps he hok
     obtain ⟨x, h4, h5, h6⟩ := this
     exact ⟨hdf, x, h4, μ', ro', h1, h5, h6 ▸ h3.hp⟩
    ·rename_i e1 e2 v hd
     have hdf : a.defers = [] := by
      have := h3.df
      rw [hd] at this
      cases hq : a.defers with
      | nil => rfl
      | cons x y => rw [hq] at this; exact this.elim
     simp only [W.pure, sJ, Prod.mk.injEq] at he
     obtain ⟨rfl, rfl⟩ := he
     cases e with
     | panic chain =>
      rcases chain with _ | ⟨⟨x1, r1, g1⟩, _ | ⟨p2, ps⟩⟩
      ·exact h2.elim
      ·cases r1 <;> cases g1 <;> first | exact h2.elim | skip
       exact ⟨hdf, μ', ro', h1, h2, h3.hp⟩
      ·cases r1 <;> cases g1 <;> exact h2.elim
     | _ => exact h2.elim
    ·cases he
 exact this r ps he hok
def evBodyS (P : Program) (G : Nat → AV) (self : Self) (f : FuncId) (args : List AV) (h : Hp) (hs : List CH) : W (CO × Hp × List CH) :=
 match hs with
 | .spec S :: hs' => match S.ok args h with | true => (W.owe (SpecOk P G f S)).bind fun _ => (W.owe (S.req args h)).bind fun _ => W.pure ((S.res args h).1, (S.res args h).2, hs') | false => W.fail
 | hs => evBody P self f args h hs
theorem evBodyS_sat {self : Self} (hself : SelfOk P G self) (f : FuncId) (args : List AV) (h : Hp) (hs : List CH) :
  (evBodyS P G self f args h hs).sat fun r => CallDoes P G f args h r.1 r.2.1 := by
 unfold evBodyS
 split
 ·split
  ·rename_i hok
   exact W.sat_bind W.sat_owe fun _ hs => W.sat_bind W.sat_owe fun _ hr => W.sat_pure (hs args h hok hr)
  ·exact W.sat_fail
 ·exact evBody_sat hself f args h _
def evF0 (P : Program) (G : Nat → AV) (drawB : Self → Nat → Array Oper → St → List CH → W (AEx × St × List CH)) (self : Self) (n : Nat) (c : Code) (s : St) (hs : List CH) : W (AEx × St × List CH) :=
 match c with
 | .skip => W.pure (.normal, s, hs)
 | .label _ => W.pure (.normal, s, hs)
 | .ret => W.pure (.ret, s, hs)
 | .exit id => W.pure (.exit id, s, hs)
 | .seq a b => (self n a s hs).bind fun r => match r.1 with | .normal => self n b r.2.1 r.2.2 | e => W.pure (e, r.2.1, r.2.2)
 | .scope b => self n b s hs
 | .block id b => (self n b s hs).bind fun r => W.pure (r.1.block id, r.2.1, r.2.2)
 | .cond c x y =>
  match opd G s c with
  | .bool b =>
   match hs with
   | .br β :: hs' => (W.owe (b = β)).bind fun _ => match β with | true => self n x s hs' | false => self n y s hs'
   | hs => match b with | true => self n x s hs | false => self n y s hs
  | _ => W.fail
 | .loop b =>
  match hs with
  | .cut e s' ρ tms blks :: hs' => (aSub n s ρ tms blks).bind fun _ => (W.owe (Does P G n (.loop b) (S s.nt tms blks) e s')).bind fun _ => W.pure (e, s', hs')
  | .fcut m e tms' blks' ρ tms blks :: hs' => (aFcut P G n m (.loop b) s e tms' blks' ρ tms blks).bind fun s' => W.pure (e, s', hs')
  | hs => (self n b s hs).bind fun r => match r.1 with | .normal => self n (.loop b) r.2.1 r.2.2 | e => W.pure (e, r.2.1, r.2.2)
 | .region _ ops false => evOps P G n (evBodyS P G self) ops (List.range ops.size) s hs
 | .region _ ops true => drawB self n ops s hs
 | _ => W.fail
theorem evF0_sat {drawB : Self → Nat → Array Oper → St → List CH → W (AEx × St × List CH)} {self : Self} (hself : SelfOk P G self)
  (hd : ∀ n id ops s hs, (drawB self n ops s hs).sat fun r => Does P G n (.region id ops true) s r.1 r.2.1) : SelfOk P G (evF0 P G drawB self) := by
 intro n c s hs
 cases c with
 | skip => exact W.sat_pure .skip
 | label l => exact W.sat_pure .label
 | ret => exact W.sat_pure .ret
 | exit id => exact W.sat_pure .exit
 | scope b => exact W.sat_mono (hself _ _ _ _) fun r hr => hr.scope
 | block id b => exact W.sat_bind (hself _ _ _ _) fun r hr => W.sat_pure hr.block
 | seq a b =>
  refine W.sat_bind (hself _ _ _ _) fun r hr => ?_
  obtain ⟨e, s1, hs1⟩ := r
  cases e with
  | normal => exact W.sat_mono (hself _ _ _ _) fun r hr2 => hr.seq hr2
  | _ => exact W.sat_pure (hr.seq_out (by simp))
 | cond c x y =>
  simp only [evF0]
  split
  ·rename_i b hb
   split
   ·rename_i β hs'
    refine W.sat_bind W.sat_owe fun _ hbe => ?_
    subst hbe
    cases b with
    | true => exact W.sat_mono (hself _ _ _ _) fun r hr => Does.cond hb hr
    | false => exact W.sat_mono (hself _ _ _ _) fun r hr => Does.cond hb hr
   ·cases b with
    | true => exact W.sat_mono (hself _ _ _ _) fun r hr => Does.cond hb hr
    | false => exact W.sat_mono (hself _ _ _ _) fun r hr => Does.cond hb hr
  ·exact W.sat_fail
 | loop b =>
  simp only [evF0]
  split
  ·exact W.sat_bind aSub_sat fun _ h1 => W.sat_bind W.sat_owe fun _ h2 => W.sat_pure (h2.pre h1)
  ·exact W.sat_bind aFcut_sat fun _ h1 => W.sat_pure h1
  ·refine W.sat_bind (hself _ _ _ _) fun r hr => ?_
   obtain ⟨e, s1, hs1⟩ := r
   cases e with
   | normal => exact W.sat_mono (hself _ _ _ _) fun r hr2 => hr.loop hr2
   | _ => exact W.sat_pure (hr.loop_out (by simp))
 | region id ops d =>
  cases d with
  | true => exact hd n id ops s hs
  | false => exact W.sat_mono (evOps_sat (evBodyS_sat hself) _ _ _) fun r hr => fun μ ro a w hst => wp_region (hr μ ro a w _ hst fun _ _ _ h => h)
 | _ => exact W.sat_fail
def evF (P : Program) (G : Nat → AV) (drawB : Self → Nat → Array Oper → St → List CH → W (AEx × St × List CH)) (self : Self) (n : Nat) (c : Code) (s : St) (hs : List CH) : W (AEx × St × List CH) :=
 match hs with
 | .tr f :: hs' => (aTf s f).bind fun s' => self n c s' hs'
 | .fcuta k m e tms' blks' ρ tms blks :: hs' =>
  match k with
  | 0 => (aFcut P G n m c s e tms' blks' ρ tms blks).bind fun s' => W.pure (e, s', hs')
  | k + 1 => evF0 P G drawB self n c s (.fcuta k m e tms' blks' ρ tms blks :: hs')
 | hs => evF0 P G drawB self n c s hs
theorem evF_sat {drawB : Self → Nat → Array Oper → St → List CH → W (AEx × St × List CH)} {self : Self} (hself : SelfOk P G self)
  (hd : ∀ n id ops s hs, (drawB self n ops s hs).sat fun r => Does P G n (.region id ops true) s r.1 r.2.1) : SelfOk P G (evF P G drawB self) := by
 intro n c s hs
 unfold evF
 split
 ·exact W.sat_bind aTf_sat fun s' h1 => W.sat_mono (hself _ _ _ _) fun r hr => hr.pre h1
 ·split
  ·exact W.sat_bind aFcut_sat fun _ h1 => W.sat_pure h1
  ·exact evF0_sat hself hd n c s _
 ·exact evF0_sat hself hd n c s _
end Go.Proofs.YtpadimnchmghpaaGreatDoor.Av
