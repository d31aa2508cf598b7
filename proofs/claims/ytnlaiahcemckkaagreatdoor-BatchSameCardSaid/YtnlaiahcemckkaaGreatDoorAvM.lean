/- One operation. -/
import Derived.Test.YtnlaiahcemckkaaGreatDoorAvMe
set_option linter.unusedVariables false
set_option linter.unusedSimpArgs false
namespace Go.Proofs.YtnlaiahcemckkaaGreatDoor.Av
open Go.RowKit
variable {P : Program} {μ μ' : Nat → Option Loc} {ro ro' : Nat → Prop} {w w' : World}
/-- what an operation comes to -/
inductive OR where
  | val (v : AV) (h : Hp)
  | skip (h : Hp)
  | call (f : FuncId) (args : List AV)
  | dfr (f : FuncId) (args : List AV)
  | pan (v : AV)
/-- a deferred call that describes one -/
def DfrRel (μ : Nat → Option Loc) (ro : Nat → Prop) (w : World) (f : FuncId) (args : List AV) (d : Deferred) : Prop :=
  ∃ cap vs : Array Value, d = ⟨.fn (.func f) cap, vs⟩ ∧ Reps μ ro w true args (vs ++ cap).toList
def OpRel (P : Program) (μ : Nat → Option Loc) (ro : Nat → Prop) (w : World) (n : Nat) (s : Sem Next) : OR → Prop
  | .val v h' => ∃ v' w' μ', s.run P w = .ok (.value v') w' ∧ agree n μ μ' ∧ Rep μ' ro w' true v v' ∧ HpRel μ' ro h' w' ∧ Fr μ ro w μ' w'
  | .skip h' => ∃ w', s.run P w = .ok .skip w' ∧ HpRel μ ro h' w' ∧ Fr μ ro w μ w'
  | .call f args => ∃ vs : Array Value, s.run P w = .ok (.enter f vs) w ∧ Reps μ ro w true args vs.toList
  | .dfr f args => ∃ d, s.run P w = .ok (.defer d) w ∧ DfrRel μ ro w f args d
  | .pan v => ∃ v', s.run P w = .halt (.panic v') w ∧ Rep μ ro w true v v'
theorem OpRel.of_good {s : Sem Value} {r : AV × Hp} {n : Nat} (h : Good P s μ ro w n r.1 r.2) : OpRel P μ ro w n (do pure (.value (← s))) (.val r.1 r.2) := by
  obtain ⟨v', w', μ', h1, h2⟩ := h
  exact ⟨v', w', μ', by simp [h1, Result.andThen], h2⟩
theorem OpRel.of_pure {s : Sem Value} {v : AV} {h : Hp} (hs : ∃ v', (∀ w, s.run P w = .ok v' w) ∧ Rep μ ro w true v v') (hh : HpRel μ ro h w) : OpRel P μ ro w h.nx (do pure (.value (← s))) (.val v h) := by
  obtain ⟨v', h1, h2⟩ := hs
  exact ⟨v', w, μ, by simp [h1, Result.andThen], .refl _ _, h2, hh, Fr.refl _ _ _⟩
theorem OpRel.of_here {s : Sem Value} {v : AV} {h : Hp} (hs : ∃ v', s.run P w = .ok v' w ∧ Rep μ ro w true v v') (hh : HpRel μ ro h w) : OpRel P μ ro w h.nx (do pure (.value (← s))) (.val v h) := by
  obtain ⟨v', h1, h2⟩ := hs
  exact ⟨v', w, μ, by simp [h1, Result.andThen], .refl _ _, h2, hh, Fr.refl _ _ _⟩
theorem Plain.here {s : Sem Value} {v : AV} (h : Plain P s v) (μ : Nat → Option Loc) (ro : Nat → Prop) (w : World) : ∃ v', (∀ w, s.run P w = .ok v' w) ∧ Rep μ ro w true v v' :=
  let ⟨v', h1, h2⟩ := h; ⟨v', h1, h2 _ _ _ _⟩
def aNil (x : AV) : Option AV :=
  match x with
  | .ptr _ _ | .rop _ _ | .ifc _ _ => some x
  | .fn (.func _) _ _ => some x
  | _ => none
/-- a Go function with a body -/
def callable (P : Program) (f : FuncId) : Bool :=
  match P.funcs[f]? with
  | some fn => fn.body.isSome && !(fn.name == "runtime.NumGoroutine")
  | none => false
theorem callable_run {f : FuncId} (h : callable P f = true) (args : Array Value) (w : World) : (callFunc f args).run P w = .ok (.enter f args) w := by
  unfold callable at h
  split at h
  · rename_i fn hf
    simp only [Bool.and_eq_true, Bool.not_eq_true'] at h
    obtain ⟨c, hc⟩ := Option.isSome_iff_exists.1 h.1
    have h2 : (fn.name == "runtime.NumGoroutine") = false := h.2
    simp only [callFunc, Sem.run_bind, run_program, Result.andThen_ok, hf, h2, hc, Option.isNone_some, Bool.false_eq_true, if_false, Sem.run_pure]
  · cases h
def aCall (P : Program) (f : AV) (args : List AV) : Option OR :=
  match f with
  | .fn (.func g) first cap => match callable P g with | true => some (.call g (first ++ args ++ cap)) | false => none
  | _ => none
/-- a call that the model stands in for -/
def aExt (P : Program) (f : AV) (args : List AV) (h : Hp) : Option (AV × Hp) :=
  match f with
  | .fn (.func g) [] [] => match isClone P g with | true => aClone args h | false => (match isIdx P g, aByteIx args with | true, some v => some (v, h) | _, _ => none)
  | _ => none
def aBuiltin (P : Program) (hn : Hint) (b : Builtin) (ts : Array TypeId) (args : List AV) (h : Hp) : W OR :=
  match b, args with
  | .append, [s, x] => (aAppend P hn ts s x h).bind fun r => W.pure (.val r.1 r.2)
  | .copy, [s, x] => (aCopy P hn ts s x h).bind fun r => W.pure (.val r.1 r.2)
  | .len, [.mapr id] => (W.of (match ts[0]? with | some t => aMapLen P t (.mapr id) h | none => none)).bind fun v => W.pure (.val v h)
  | .len, [.nilm] => (W.of (match ts[0]? with | some t => aMapLen P t .nilm h | none => none)).bind fun v => W.pure (.val v h)
  | .len, [x] => (W.of (aLen P ts x)).bind fun v => W.pure (.val v h)
  | .cap, [x] => (W.of (aCap P ts x)).bind fun v => W.pure (.val v h)
  | .min, [x, y] => (aMin hn x y).bind fun v => W.pure (.val v h)
  | .max, [x, y] => (aMax hn x y).bind fun v => W.pure (.val v h)
  | .min, [x, y, z] => (aMin3 hn x y z).bind fun v => W.pure (.val v h)
  | .max, [x, y, z] => (aMax3 hn x y z).bind fun v => W.pure (.val v h)
  | .clear, [s] => (aClear P hn ts s h).bind fun r => W.pure (.val r.1 r.2)
  | .panic, [.ifc t v] => W.pure (.pan (.ifc t v))
  | .delete, [m, k] => (W.of (match ts[0]? with | some t => aDelete P t m k h | none => none)).bind fun h' => W.pure (.val (.tup []) h')
  | _, _ => W.fail
/-- an assertion of a type that is no interface -/
def aAssert (P : Program) (x : AV) (ast : TypeId) (ok : Bool) : Option AV :=
  match P.underlying ast with
  | some (.interface _) => none
  | some _ =>
    match x with
    | .ifc t v =>
      match decide (t = ast), ok with
      | true, true => some (.tup [v, .bool true])
      | true, false => some v
      | false, true => (match P.info? ast with | some i => (match i.zero with | some z => some (.tup [cst z, .bool false]) | none => none) | none => none)
      | false, false => none
    | .nili =>
      match ok, P.info? ast with
      | true, some i => (match i.zero with | some z => some (.tup [cst z, .bool false]) | none => none)
      | _, _ => none
    | _ => none
  | none => none
theorem aAssert_run {x v : AV} {a : Value} {xt ast : TypeId} {ok : Bool} (h : aAssert P x ast ok = some v) (hx : Rep μ ro w true x a) :
    ∃ v', (∀ w, (Instr.typeAssert a xt ast ok).run P w = .ok v' w) ∧ Rep μ ro w true v v' := by
  unfold aAssert at h
  split at h
  · cases h
  · rename_i d hne hu
    split at h
    · rename_i t v0
      cases hx with
      | ifc hv =>
        rename_i x0
        split at h
        · rename_i he
          simp only [Option.some.injEq] at h
          subst h
          have he' := of_decide_eq_true he
          refine ⟨.tuple #[x0, .bool true], fun w => ?_, (Reps.cons hv (Reps.cons .bool Reps.nil)).tup⟩
          simp only [Instr.typeAssert, Sem.run_bind, r_underlying hu, Result.andThen_ok]
          cases d <;> first | (simp [he'] ; done) | exact absurd rfl (hne _)
        · rename_i he
          simp only [Option.some.injEq] at h
          subst h
          have he' := of_decide_eq_true he
          refine ⟨x0, fun w => ?_, hv⟩
          simp only [Instr.typeAssert, Sem.run_bind, r_underlying hu, Result.andThen_ok]
          cases d <;> first | (simp [he'] ; done) | exact absurd rfl (hne _)
        · rename_i he
          have he' := of_decide_eq_false he
          split at h
          · rename_i i hi
            split at h
            · rename_i z hz
              simp only [Option.some.injEq] at h
              subst h
              refine ⟨.tuple #[z, .bool false], fun w => ?_, (Reps.cons (cst_rep z) (Reps.cons .bool Reps.nil)).tup⟩
              simp only [Instr.typeAssert, Sem.run_bind, r_underlying hu, Result.andThen_ok]
              cases d <;> first | (simp [he', r_zero hi hz, Result.andThen] ; done) | exact absurd rfl (hne _)
            · cases h
          · cases h
        · cases h
    · cases hx
      split at h
      · rename_i i hi
        split at h
        · rename_i z hz
          simp only [Option.some.injEq] at h
          subst h
          refine ⟨.tuple #[z, .bool false], fun w => ?_, (Reps.cons (cst_rep z) (Reps.cons .bool Reps.nil)).tup⟩
          simp only [Instr.typeAssert, Sem.run_bind, r_underlying hu, Result.andThen_ok]
          cases d <;> first | (simp [r_zero hi hz, Result.andThen] ; done) | exact absurd rfl (hne _)
        · cases h
      · cases h
    · cases h
  · cases h
def evOp (P : Program) (hn : Hint) (ρ : Operand → AV) (o : Oper) (h : Hp) : W OR :=
  match o.op with
  | .move x | .assign x => W.pure (.val (ρ x) h)
  | .pick c a b => (aPickH hn (ρ c) (ρ a) (ρ b)).bind fun v => W.pure (.val v h)
  | .alloc e => (W.of (aAlloc P e h)).bind fun r => W.pure (.val r.1 r.2)
  | .box e x => (W.of (aBox e (ρ x) h)).bind fun r => W.pure (.val r.1 r.2)
  | .build t ps => (W.of (aBuild P t (ps.toList.map fun p => (p.1, ρ p.2)))).bind fun v => W.pure (.val v h)
  | .buildSlice t n ps => (W.of (aBuildSlice P t n (ps.toList.map fun p => (p.1, ρ p.2)) h)).bind fun r => W.pure (.val r.1 r.2)
  | .load t a => (aLoad P hn t (ρ a) h).bind fun v => W.pure (.val v h)
  | .store t a x => (aStore P hn t (ρ a) (ρ x) h).bind fun h' => W.pure (.skip h')
  | .nilCheck x => (W.of (aNil (ρ x))).bind fun v => W.pure (.val v h)
  | .binOp op t x y _ => (aBin P hn op t (ρ x) (ρ y)).bind fun v => W.pure (.val v h)
  | .unOp op _ x => (aUn hn op (ρ x)).bind fun v => W.pure (.val v h)
  | .convert s d x => (aConv P hn s d (ρ x) h).bind fun r => W.pure (.val r.1 r.2)
  | .makeInterface t x => (W.of (aIface P t (ρ x))).bind fun v => W.pure (.val v h)
  | .makeFunc f a c => W.pure (.val (.fn f (a.toList.map ρ) (c.toList.map ρ)) h)
  | .makeSlice t l c => (aMakeSlice P hn t (ρ l) (ρ c) h).bind fun r => W.pure (.val r.1 r.2)
  | .slice t x lo hi none => (aSlice P hn t (ρ x) (lo.map ρ) (hi.map ρ) h).bind fun v => W.pure (.val v h)
  | .fieldAddr s x f => (W.of (aFieldAddr P s (ρ x) f)).bind fun v => W.pure (.val v h)
  | .field t x f => (W.of (aField P t (ρ x) f)).bind fun v => W.pure (.val v h)
  | .indexAddr t x i => (aIndexAddr P hn t (ρ x) (ρ i)).bind fun v => W.pure (.val v h)
  | .index t x i => (aIndex P hn t (ρ x) (ρ i)).bind fun v => W.pure (.val v h)
  | .makeMap t r => (W.of (aMakeMap P t (r.map ρ) h)).bind fun r => W.pure (.val r.1 r.2)
  | .lookup t x i ok => (aLookup P hn t (ρ x) (ρ i) ok h).bind fun v => W.pure (.val v h)
  | .mapUpdate t m k x => (W.of (aMapSet P t (ρ m) (ρ k) (ρ x) h)).bind fun h' => W.pure (.skip h')
  | .insert t m k x => (W.of (aMapSet P t (ρ m) (ρ k) (ρ x) h)).bind fun h' => W.pure (.skip h')
  | .mapEntry t m k => (W.of (aMapEntry P t (ρ m) (ρ k) h)).bind fun r => W.pure (.val r.1 r.2)
  | .entryStore _ m k x => (W.of (aEntryStore (ρ m) (ρ k) (ρ x) h)).bind fun h' => W.pure (.skip h')
  | .range t x => (W.of (aRange P t (ρ x) h)).bind fun r => W.pure (.val r.1 r.2)
  | .next i s => (aNext hn s (ρ i) h).bind fun r => W.pure (.val r.1 r.2)
  | .entry i => (aEntry hn (ρ i) h).bind fun v => W.pure (.val v h)
  | .typeAssert x _ t ok => (W.of (aAssert P (ρ x) t ok)).bind fun v => W.pure (.val v h)
  | .extract t i => (W.of (aExtract (ρ t) i)).bind fun v => W.pure (.val v h)
  | .panic x => match ρ x with | .ifc t v => W.pure (.pan (.ifc t v)) | _ => W.fail
  | .call c =>
    match c.callee with
    | .value f => match aExt P (ρ f) (c.args.toList.map ρ) h with | some r => W.pure (.val r.1 r.2) | none => W.of (aCall P (ρ f) (c.args.toList.map ρ))
    | .builtin b => aBuiltin P hn b c.argTypes (c.args.toList.map ρ) h
    | .invoke _ _ => W.fail
  | .defer c =>
    match c.callee with
    | .value f => match ρ f with | .fn (.func g) first cap => (match callable P g with | true => W.pure (.dfr g (first ++ c.args.toList.map ρ ++ cap)) | false => W.fail) | _ => W.fail
    | _ => W.fail
  | _ => W.fail
variable {ρ : Operand → AV} {ρ' : Operand → Value}
theorem toArr {α β : Type} (f : α → β) (a : Array α) : (a.toList.map f).toArray = a.map f := by
  apply Array.ext'
  rw [Array.toList_map]
theorem reps_of (hρ : ∀ x, Rep μ ro w true (ρ x) (ρ' x)) : ∀ l : List Operand, Reps μ ro w true (l.map ρ) (l.map ρ')
  | [] => Reps.nil
  | x :: l => Reps.cons (hρ x) (reps_of hρ l)
theorem parts_of (hρ : ∀ x, Rep μ ro w true (ρ x) (ρ' x)) (ps : Array (Nat × Operand)) :
    (ps.toList.map fun p => (p.1, ρ' p.2)).length = (ps.toList.map fun p => (p.1, ρ p.2)).length ∧
    ∀ i (h : i < (ps.toList.map fun p => (p.1, ρ p.2)).length) (h' : i < (ps.toList.map fun p => (p.1, ρ' p.2)).length),
      ((ps.toList.map fun p => (p.1, ρ' p.2))[i]).1 = ((ps.toList.map fun p => (p.1, ρ p.2))[i]).1 ∧ Rep μ ro w true ((ps.toList.map fun p => (p.1, ρ p.2))[i]).2 ((ps.toList.map fun p => (p.1, ρ' p.2))[i]).2 :=
  ⟨by simp, fun i h h' => by simp only [List.getElem_map, true_and]; exact hρ _⟩
theorem evOp_sat {hn : Hint} {o : Oper} {h : Hp} (hρ : ∀ x, Rep μ ro w true (ρ x) (ρ' x)) (hh : HpRel μ ro h w) :
    (evOp P hn ρ o h).sat fun r => OpRel P μ ro w h.nx (execOp ρ' o) r := by
  have here : ∀ {v : AV} {v' : Value} {s : Sem Next}, s.run P w = .ok (.value v') w → Rep μ ro w true v v' → OpRel P μ ro w h.nx s (.val v h) := fun h1 h2 => ⟨_, w, μ, h1, .refl _ _, h2, hh, Fr.refl _ _ _⟩
  unfold evOp execOp
  cases o.op <;> simp only
  case move x => exact W.sat_pure (here rfl (hρ x))
  case assign x => exact W.sat_pure (here rfl (hρ x))
  case pick c a b =>
    refine W.sat_bind (aPickH_sat (P := P) (hρ c) (hρ a) (hρ b)) fun v hv => W.sat_pure ?_
    obtain ⟨v', h1, h2⟩ := hv
    refine here (v' := v') ?_ h2
    have := h1 w
    simp only [Sem.run_bind, Sem.run_pure] at this ⊢
    cases hb : (asBool (ρ' c)).run P w with
    | ok x w1 => rw [hb] at this; simp only [Result.andThen_ok, Result.ok.injEq] at this ⊢; exact ⟨by rw [this.1], this.2⟩
    | halt x w1 => rw [hb] at this; simp at this
  case alloc e => exact W.sat_bind (W.sat_of (Q := fun r => aAlloc P e h = some r) fun v hv => hv) fun r hr => W.sat_pure (OpRel.of_good (aAlloc_good hr hh))
  case box e x => exact W.sat_bind (W.sat_of (Q := fun r => aBox e (ρ x) h = some r) fun v hv => hv) fun r hr => W.sat_pure (OpRel.of_good (aBox_good hr (hρ x) hh))
  case build t ps =>
    refine W.sat_bind (W.sat_of (Q := fun r => aBuild P t _ = some r) fun v hv => hv) fun v hv => W.sat_pure (OpRel.of_pure ?_ hh)
    obtain ⟨e1, e2⟩ := parts_of hρ ps
    have := aBuild_run hv e1 e2
    rwa [toArr] at this
  case buildSlice t n ps =>
    refine W.sat_bind (W.sat_of (Q := fun r => aBuildSlice P t n _ h = some r) fun v hv => hv) fun v hv => W.sat_pure (OpRel.of_good ?_)
    obtain ⟨e1, e2⟩ := parts_of hρ ps
    have := aBuildSlice_good hv e1 e2 hh
    rwa [toArr] at this
  case load t a => exact W.sat_bind (aLoad_sat (hρ a) hh) fun v hv => W.sat_pure (OpRel.of_here hv hh)
  case store t a x =>
    refine W.sat_bind (aStore_sat (hρ a) (hρ x) hh) fun h' ⟨w', h1, h2, h3⟩ => W.sat_pure ⟨w', ?_, h2, h3⟩
    simp [h1, Result.andThen]
  case nilCheck x =>
    refine W.sat_bind (W.sat_of (Q := fun r => aNil (ρ x) = some r) fun v hv => hv) fun v hv => W.sat_pure ?_
    have hx := hρ x
    unfold aNil at hv
    split at hv
    · simp only [Option.some.injEq] at hv; subst hv
      rename_i heq
      rw [heq] at hx ⊢
      refine here (v' := ρ' x) ?_ hx
      cases hr : ρ' x <;> rw [hr] at hx <;> cases hx
      rfl
    · simp only [Option.some.injEq] at hv; subst hv
      rename_i heq
      rw [heq] at hx ⊢
      refine here (v' := ρ' x) ?_ hx
      cases hr : ρ' x <;> rw [hr] at hx <;> cases hx
      rfl
    · simp only [Option.some.injEq] at hv; subst hv
      rename_i heq
      rw [heq] at hx ⊢
      refine here (v' := ρ' x) ?_ hx
      cases hr : ρ' x <;> rw [hr] at hx <;> cases hx
      rfl
    · simp only [Option.some.injEq] at hv; subst hv
      rename_i heq
      rw [heq] at hx ⊢
      refine here (v' := ρ' x) ?_ hx
      cases hr : ρ' x <;> rw [hr] at hx <;> cases hx
      rfl
    · cases hv
  case binOp op t x y u =>
    exact W.sat_bind (aBin_sat (P := P) (p := x) (q := y) (hρ x) (hρ y)) fun v hv => W.sat_pure (OpRel.of_pure (hv.here _ _ _) hh)
  case unOp op t x => exact W.sat_bind (aUn_sat (P := P) (hρ x)) fun v hv => W.sat_pure (OpRel.of_pure (hv.here _ _ _) hh)
  case convert s d x => exact W.sat_bind (aConv_sat (hρ x) hh) fun r hr => W.sat_pure (OpRel.of_good hr)
  case makeInterface t x =>
    exact W.sat_bind (W.sat_of (Q := fun r => aIface P t (ρ x) = some r) fun v hv => hv) fun v hv => W.sat_pure (OpRel.of_pure (aIface_run hv (hρ x)) hh)
  case makeFunc f a c =>
    refine W.sat_pure (here rfl ?_)
    have h1 := reps_of hρ a.toList
    have h2 := reps_of hρ c.toList
    refine .fn (by simp) (fun i hi => ?_) (by simp) (fun i hi => ?_)
    · have := h1.2 i hi
      rwa [show (List.map ρ' a.toList).getD i undef = (a.map ρ').getD i undef by rw [← arr_getD_toList (a.map ρ')]; simp] at this
    · have := h2.2 i hi
      rwa [show (List.map ρ' c.toList).getD i undef = (c.map ρ').getD i undef by rw [← arr_getD_toList (c.map ρ')]; simp] at this
  case makeSlice t l c => exact W.sat_bind (aMakeSlice_sat (hρ l) (hρ c) hh) fun r hr => W.sat_pure (OpRel.of_good hr)
  case slice t x lo hi mx =>
    cases mx with
    | some m => exact W.sat_fail
    | none =>
      simp only [Option.map_none]
      refine W.sat_bind (aSlice_sat (lo' := lo.map ρ') (hi' := hi.map ρ') hh (hρ x) (fun v hv => ?_) (fun e => by simpa using e) (fun v hv => ?_) (fun e => by simpa using e)) fun v hv => W.sat_pure (OpRel.of_pure hv hh)
      · cases lo with
        | none => cases hv
        | some y => simp only [Option.map_some, Option.some.injEq] at hv; subst hv; exact ⟨_, rfl, hρ y⟩
      · cases hi with
        | none => cases hv
        | some y => simp only [Option.map_some, Option.some.injEq] at hv; subst hv; exact ⟨_, rfl, hρ y⟩
  case fieldAddr s x f => exact W.sat_bind (W.sat_of (Q := fun r => aFieldAddr P s (ρ x) f = some r) fun v hv => hv) fun v hv => W.sat_pure (OpRel.of_pure (aFieldAddr_run hv (hρ x)) hh)
  case field t x f => exact W.sat_bind (W.sat_of (Q := fun r => aField P t (ρ x) f = some r) fun v hv => hv) fun v hv => W.sat_pure (OpRel.of_pure (aField_run hv (hρ x)) hh)
  case indexAddr t x i => exact W.sat_bind (aIndexAddr_sat (hρ x) (hρ i)) fun v hv => W.sat_pure (OpRel.of_pure hv hh)
  case index t x i => exact W.sat_bind (aIndex_sat (hρ x) (hρ i)) fun v hv => W.sat_pure (OpRel.of_pure hv hh)
  case makeMap t r => exact W.sat_bind (W.sat_of (Q := fun q => aMakeMap P t (r.map ρ) h = some q) fun v hv => hv) fun q hq => W.sat_pure (OpRel.of_good (aMakeMap_good hq (fun e => by simpa using e) hh))
  case lookup t x i ok => exact W.sat_bind (aLookup_sat (hρ x) (hρ i) hh) fun v hv => W.sat_pure (OpRel.of_here hv hh)
  case mapUpdate t m k x =>
    refine W.sat_bind (W.sat_of (Q := fun q => aMapSet P t (ρ m) (ρ k) (ρ x) h = some q) fun v hv => hv) fun h' hq => W.sat_pure ?_
    obtain ⟨w', h1, h2, h3⟩ := aMapSet_run hq (hρ m) (hρ k) (hρ x) hh
    exact ⟨w', by simp [h1, Result.andThen], h2, h3⟩
  case insert t m k x =>
    refine W.sat_bind (W.sat_of (Q := fun q => aMapSet P t (ρ m) (ρ k) (ρ x) h = some q) fun v hv => hv) fun h' hq => W.sat_pure ?_
    obtain ⟨w', h1, h2, h3⟩ := aMapSet_run hq (hρ m) (hρ k) (hρ x) hh
    exact ⟨w', by simp [h1, Result.andThen], h2, h3⟩
  case mapEntry t m k => exact W.sat_bind (W.sat_of (Q := fun q => aMapEntry P t (ρ m) (ρ k) h = some q) fun v hv => hv) fun q hq => W.sat_pure (OpRel.of_good (aMapEntry_good hq (hρ m) (hρ k) hh))
  case entryStore t m k x =>
    refine W.sat_bind (W.sat_of (Q := fun q => aEntryStore (ρ m) (ρ k) (ρ x) h = some q) fun v hv => hv) fun h' hq => W.sat_pure ?_
    obtain ⟨w', h1, h2, h3⟩ := aEntryStore_run (P := P) (t := t) hq (hρ m) (hρ k) (hρ x) hh
    exact ⟨w', by simp [h1, Result.andThen], h2, h3⟩
  case range t x => exact W.sat_bind (W.sat_of (Q := fun r => aRange P t (ρ x) h = some r) fun v hv => hv) fun r hr => W.sat_pure (OpRel.of_good (aRange_good hr (hρ x) hh))
  case entry i => exact W.sat_bind (aEntry_sat (hρ i) hh) fun v hv => W.sat_pure (OpRel.of_here hv hh)
  case next i s => exact W.sat_bind (aNext_sat (hρ i) hh) fun r hr => W.sat_pure (OpRel.of_good hr)
  case typeAssert x xt t ok => exact W.sat_bind (W.sat_of (Q := fun r => aAssert P (ρ x) t ok = some r) fun v hv => hv) fun v hv => W.sat_pure (OpRel.of_pure (aAssert_run hv (hρ x)) hh)
  case extract t i => exact W.sat_bind (W.sat_of (Q := fun r => aExtract (ρ t) i = some r) fun v hv => hv) fun v hv => W.sat_pure (OpRel.of_pure (aExtract_run hv (hρ t)) hh)
  case panic x =>
    have hx := hρ x
    split
    · rename_i t v heq
      rw [heq] at hx
      refine W.sat_pure ?_
      cases hr : ρ' x <;> rw [hr] at hx <;> cases hx
      rename_i y hy
      exact ⟨_, by simp [Instr.panic, Result.andThen], .ifc hy⟩
    · exact W.sat_fail
  case call c =>
    have hargs := reps_of hρ c.args.toList
    split
    · rename_i f hc
      have hf := hρ f
      split
      · rename_i r hr
        refine W.sat_pure ?_
        unfold aExt at hr
        split at hr
        · rename_i g heq
          split at hr
          · rename_i hcl
            rw [heq] at hf
            cases hfv : ρ' f <;> rw [hfv] at hf <;> cases hf
            rename_i as cs hn hq hm hs
            have ha : as = #[] := Array.eq_empty_of_size_eq_zero (by simpa using hn)
            have hc' : cs = #[] := Array.eq_empty_of_size_eq_zero (by simpa using hm)
            subst ha; subst hc'
            have hvs : Reps μ ro w true (c.args.toList.map ρ) (c.args.map ρ').toList := by simpa using hargs
            obtain ⟨v', w', μ', q1, q2⟩ := aClone_run (P := P) hr hvs hh
            refine ⟨v', w', μ', ?_, q2⟩
            have hrun := isClone_run hcl (c.args.map ρ') w
            rw [q1] at hrun
            simp only [resolve, hc, hfv, Deferred.ofValue, invoke, Sem.run_bind, Sem.run_pure, Result.andThen_ok, Array.empty_append, Array.append_empty]
            exact hrun
          · split at hr
            · rename_i hcl hix
              simp only [Option.some.injEq] at hr
              subst hr
              rw [heq] at hf
              cases hfv : ρ' f <;> rw [hfv] at hf <;> cases hf
              rename_i as cs hn hq hm hs
              have ha : as = #[] := Array.eq_empty_of_size_eq_zero (by simpa using hn)
              have hc' : cs = #[] := Array.eq_empty_of_size_eq_zero (by simpa using hm)
              subst ha; subst hc'
              have hvs : Reps μ ro w true (c.args.toList.map ρ) (c.args.map ρ').toList := by simpa using hargs
              obtain ⟨v', q1, q2⟩ := aByteIx_run (P := P) hix hvs
              refine ⟨v', w, μ, ?_, .refl _ _, q2, hh, Fr.refl _ _ _⟩
              have hrun := isIdx_run hcl (c.args.map ρ') w
              rw [q1] at hrun
              simp only [resolve, hc, hfv, Deferred.ofValue, invoke, Sem.run_bind, Sem.run_pure, Result.andThen_ok, Array.empty_append, Array.append_empty]
              exact hrun
            · cases hr
        · cases hr
      refine W.sat_of fun r hr => ?_
      unfold aCall at hr
      split at hr
      · rename_i g first cap heq
        split at hr
        · rename_i hcall
          simp only [Option.some.injEq] at hr
          subst hr
          rw [heq] at hf
          cases hfv : ρ' f <;> rw [hfv] at hf <;> cases hf
          rename_i as cs hn hr hm hs
          refine ⟨as ++ c.args.map ρ' ++ cs, ?_, ?_⟩
          · simp [resolve, hc, hfv, Deferred.ofValue, invoke, Result.andThen, callable_run hcall]
          · have r1 : Reps μ ro w true first as.toList := ⟨by simpa using hn, fun i hi => by rw [arr_getD_toList as]; exact hr i hi⟩
            have r2 : Reps μ ro w true cap cs.toList := ⟨by simpa using hm, fun i hi => by rw [arr_getD_toList cs]; exact hs i hi⟩
            have := (r1.app hargs).app r2
            simpa using this
        · cases hr
      · cases hr
    · rename_i b hc
      have hrun : ∀ {s : Sem Next}, builtin b c.argTypes o.type (c.args.map fun | .const _ => true | _ => false) (c.args.map ρ') = s →
          (do let d ← resolve ρ' c o.type; invoke d.target d.args : Sem Next).run P w = s.run P w := fun hs => by
        simp only [resolve, hc, Sem.run_bind, Sem.run_pure, Result.andThen_ok, invoke]
        rw [← hs]
        congr 1
      have conv : ∀ {r : OR} {s : Sem Next}, (do let d ← resolve ρ' c o.type; invoke d.target d.args : Sem Next).run P w = s.run P w → OpRel P μ ro w h.nx s r → OpRel P μ ro w h.nx (do let d ← resolve ρ' c o.type; invoke d.target d.args) r := fun {r s} e h => by
        cases r <;> simp only [OpRel] at h ⊢ <;> rw [e] <;> exact h
      have hsz : ∀ l : List AV, c.args.toList.map ρ = l → (c.args.map ρ').toList.length = l.length := fun l hl => by rw [← hl]; simp
      generalize hl : c.args.toList.map ρ = l at hargs ⊢
      have hal : (c.args.map ρ') = (c.args.toList.map ρ').toArray := (toArr _ _).symm
      rw [hal] at hrun
      generalize hxs : c.args.toList.map ρ' = xs at hargs hrun
      unfold aBuiltin
      split
      · obtain ⟨x1, xs1, rfl, r1, hargs⟩ := hargs.head
        obtain ⟨x2, xs2, rfl, r2, hargs⟩ := hargs.head
        obtain rfl : xs2 = [] := List.length_eq_zero_iff.1 (by simpa using hargs.1)
        exact W.sat_bind (aAppend_sat (ty := o.type) r1 r2 hh) fun r hr => W.sat_pure (conv (hrun rfl) (OpRel.of_good hr))
      · obtain ⟨x1, xs1, rfl, r1, hargs⟩ := hargs.head
        obtain ⟨x2, xs2, rfl, r2, hargs⟩ := hargs.head
        obtain rfl : xs2 = [] := List.length_eq_zero_iff.1 (by simpa using hargs.1)
        exact W.sat_bind (aCopy_sat (ty := o.type) r1 r2 hh) fun r hr => W.sat_pure (conv (hrun rfl) (OpRel.of_good hr))
      · obtain ⟨x1, xs1, rfl, r1, hargs⟩ := hargs.head
        obtain rfl : xs1 = [] := List.length_eq_zero_iff.1 (by simpa using hargs.1)
        refine W.sat_bind (W.sat_of (Q := fun v => ∃ t, c.argTypes[0]? = some t ∧ aMapLen P t _ h = some v) fun v hv => ?_) fun v ⟨t, ht, hv⟩ => W.sat_pure (conv (hrun rfl) (OpRel.of_here (aMapLen_run (ty := o.type) ht hv r1 hh) hh))
        split at hv
        · rename_i t ht; exact ⟨t, ht, hv⟩
        · cases hv
      · obtain ⟨x1, xs1, rfl, r1, hargs⟩ := hargs.head
        obtain rfl : xs1 = [] := List.length_eq_zero_iff.1 (by simpa using hargs.1)
        refine W.sat_bind (W.sat_of (Q := fun v => ∃ t, c.argTypes[0]? = some t ∧ aMapLen P t _ h = some v) fun v hv => ?_) fun v ⟨t, ht, hv⟩ => W.sat_pure (conv (hrun rfl) (OpRel.of_here (aMapLen_run (ty := o.type) ht hv r1 hh) hh))
        split at hv
        · rename_i t ht; exact ⟨t, ht, hv⟩
        · cases hv
      · obtain ⟨x1, xs1, rfl, r1, hargs⟩ := hargs.head
        obtain rfl : xs1 = [] := List.length_eq_zero_iff.1 (by simpa using hargs.1)
        exact W.sat_bind (W.sat_of (Q := fun r => aLen P _ _ = some r) fun v hv => hv) fun v hv => W.sat_pure (conv (hrun rfl) (OpRel.of_pure (aLen_run hv r1) hh))
      · obtain ⟨x1, xs1, rfl, r1, hargs⟩ := hargs.head
        obtain rfl : xs1 = [] := List.length_eq_zero_iff.1 (by simpa using hargs.1)
        exact W.sat_bind (W.sat_of (Q := fun r => aCap P _ _ = some r) fun v hv => hv) fun v hv => W.sat_pure (conv (hrun rfl) (OpRel.of_pure (aCap_run hv r1) hh))
      · obtain ⟨x1, xs1, rfl, r1, hargs⟩ := hargs.head
        obtain ⟨x2, xs2, rfl, r2, hargs⟩ := hargs.head
        obtain rfl : xs2 = [] := List.length_eq_zero_iff.1 (by simpa using hargs.1)
        exact W.sat_bind (aMin_sat (P := P) r1 r2) fun v hv => W.sat_pure (conv (hrun rfl) (OpRel.of_pure (hv.here _ _ _) hh))
      · obtain ⟨x1, xs1, rfl, r1, hargs⟩ := hargs.head
        obtain ⟨x2, xs2, rfl, r2, hargs⟩ := hargs.head
        obtain rfl : xs2 = [] := List.length_eq_zero_iff.1 (by simpa using hargs.1)
        exact W.sat_bind (aMax_sat (P := P) r1 r2) fun v hv => W.sat_pure (conv (hrun rfl) (OpRel.of_pure (hv.here _ _ _) hh))
      · obtain ⟨x1, xs1, rfl, r1, hargs⟩ := hargs.head
        obtain ⟨x2, xs2, rfl, r2, hargs⟩ := hargs.head
        obtain ⟨x3, xs3, rfl, r3, hargs⟩ := hargs.head
        obtain rfl : xs3 = [] := List.length_eq_zero_iff.1 (by simpa using hargs.1)
        exact W.sat_bind (aMin3_sat (P := P) r1 r2 r3) fun v hv => W.sat_pure (conv (hrun rfl) (OpRel.of_pure (hv.here _ _ _) hh))
      · obtain ⟨x1, xs1, rfl, r1, hargs⟩ := hargs.head
        obtain ⟨x2, xs2, rfl, r2, hargs⟩ := hargs.head
        obtain ⟨x3, xs3, rfl, r3, hargs⟩ := hargs.head
        obtain rfl : xs3 = [] := List.length_eq_zero_iff.1 (by simpa using hargs.1)
        exact W.sat_bind (aMax3_sat (P := P) r1 r2 r3) fun v hv => W.sat_pure (conv (hrun rfl) (OpRel.of_pure (hv.here _ _ _) hh))
      · obtain ⟨x1, xs1, rfl, r1, hargs⟩ := hargs.head
        obtain rfl : xs1 = [] := List.length_eq_zero_iff.1 (by simpa using hargs.1)
        exact W.sat_bind (aClear_sat (ty := o.type) r1 hh) fun r hr => W.sat_pure (conv (hrun rfl) (OpRel.of_good hr))
      · obtain ⟨x1, xs1, rfl, r1, hargs⟩ := hargs.head
        obtain rfl : xs1 = [] := List.length_eq_zero_iff.1 (by simpa using hargs.1)
        cases r1 with
        | ifc hv =>
          rename_i x0
          exact W.sat_pure (conv (hrun rfl) ⟨.iface _ x0, rfl, .ifc hv⟩)
      · rename_i m0 k0
        obtain ⟨x1, xs1, rfl, r1, hargs⟩ := hargs.head
        obtain ⟨x2, xs2, rfl, r2, hargs⟩ := hargs.head
        obtain rfl : xs2 = [] := List.length_eq_zero_iff.1 (by simpa using hargs.1)
        refine W.sat_bind (W.sat_of (Q := fun h' => ∃ t, c.argTypes[0]? = some t ∧ aDelete P t m0 k0 h = some h') fun v hv => ?_) fun h' ⟨t, ht, hv⟩ => W.sat_pure ?_
        · split at hv
          · rename_i t ht; exact ⟨t, ht, hv⟩
          · cases hv
        · obtain ⟨w', q1, q2, q3⟩ := aDelete_run (ty := o.type) ht hv r1 r2 hh
          exact conv (hrun rfl) (OpRel.of_good (r := (.tup [], h')) ⟨.tuple #[], w', μ, q1, .refl _ _, Reps.nil.tup, q2, q3⟩)
      · exact W.sat_fail
    · exact W.sat_fail
  case defer c =>
    have hargs := reps_of hρ c.args.toList
    split
    · rename_i f hc
      have hf := hρ f
      split
      · rename_i g first cap heq
        split
        · rename_i hcall
          rw [heq] at hf
          cases hfv : ρ' f <;> rw [hfv] at hf <;> cases hf
          rename_i as cs hn hr hm hs
          refine W.sat_pure ⟨⟨.fn (.func g) cs, as ++ c.args.map ρ'⟩, ?_, cs, as ++ c.args.map ρ', rfl, ?_⟩
          · simp [resolve, hc, hfv, Deferred.ofValue, Result.andThen]
          · have r1 : Reps μ ro w true first as.toList := ⟨by simpa using hn, fun i hi => by rw [arr_getD_toList as]; exact hr i hi⟩
            have r2 : Reps μ ro w true cap cs.toList := ⟨by simpa using hm, fun i hi => by rw [arr_getD_toList cs]; exact hs i hi⟩
            have := (r1.app hargs).app r2
            simpa using this
        · exact W.sat_fail
      · exact W.sat_fail
    · exact W.sat_fail
  all_goals exact W.sat_fail
end Go.Proofs.YtnlaiahcemckkaaGreatDoor.Av
