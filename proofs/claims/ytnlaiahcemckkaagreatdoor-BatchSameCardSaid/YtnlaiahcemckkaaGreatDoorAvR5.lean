/- Regions whose operations may be carried out in many orders: the evaluation. -/
import Derived.Test.YtnlaiahcemckkaaGreatDoorAvR2
import Derived.StillTail
import Derived.Test.YtnlaiahcemckkaaGreatDoorAvQ
set_option linter.unusedVariables false
set_option linter.unusedSimpArgs false
namespace Go.Proofs.YtnlaiahcemckkaaGreatDoor.Av
open Go.RowKit
variable {P : Program} {G : Nat → AV} {μ μ' : Nat → Option Loc} {ro ro' : Nat → Prop} {w w' : World}
/-- operations that turn no memory -/
def stillOp : Op → Bool
  | .move _ | .assign _ | .pick _ _ _ | .build _ _ | .load _ _ | .nilCheck _ | .binOp _ _ _ _ _ | .unOp _ _ _ | .makeInterface _ _ | .makeFunc _ _ _ | .slice _ _ _ _ none
  | .fieldAddr _ _ _ | .field _ _ _ | .indexAddr _ _ _ | .index _ _ _ | .typeAssert _ _ _ _ | .extract _ _ | .lookup _ _ _ _ | .entry _ => true
  | _ => false
theorem evOp_still {hn : Hint} {ρ : Operand → AV} {o : Oper} {h : Hp} (hs : stillOp o.op = true) : (evOp P hn ρ o h).sat fun r => ∃ v, r = .val v h := by
  have triv : ∀ {α : Type} {m : W α}, m.sat fun _ => True := fun _ _ _ _ => trivial
  unfold evOp
  cases ho : o.op <;> rw [ho] at hs <;> simp only [stillOp] at hs <;> first
    | (cases hs; done)
    | exact W.sat_pure ⟨_, rfl⟩
    | exact W.sat_bind triv fun v _ => W.sat_pure ⟨_, rfl⟩
    | (rename_i m; cases m with
       | none => exact W.sat_bind triv fun v _ => W.sat_pure ⟨_, rfl⟩
       | some m => cases hs)
theorem put_hp {s : St} {dst : Option Tmp} {v : AV} : (s.put dst v).sat fun s' => s'.hp = s.hp := by
  unfold St.put
  split
  · exact W.sat_pure rfl
  · split
    · exact W.sat_pure rfl
    · exact W.sat_fail
theorem gdVal_hp {ops : Array Oper} {s : St} {o : Oper} {β : Option Bool} : (gdVal ops s o β).sat fun r => r.2.hp = s.hp := by
  unfold gdVal
  split
  · exact W.sat_pure rfl
  · split
    · split
      · split
        · exact W.sat_bind (Q := fun _ => True) (fun _ _ _ _ => trivial) fun _ _ => W.sat_pure rfl
        · exact W.sat_pure rfl
      · exact W.sat_pure rfl
      · exact W.sat_fail
    · exact W.sat_fail
theorem evStep_still {callB : CallB} {ops : Array Oper} {i : Nat} {s : St} {hs : List CH} {o : Oper} (ho : ops[i]? = some o) (hst : stillOp o.op = true) :
    (evStep P G callB ops i s hs).sat fun r => r.2.1.hp = s.hp := by
  unfold evStep
  rw [ho]
  simp only
  refine W.sat_bind gdVal_hp fun g hg => ?_
  split
  · exact W.sat_bind put_hp fun s1 h1 => W.sat_pure (h1.trans hg)
  · refine W.sat_bind (evOp_still hst) fun r ⟨v, hr⟩ => ?_
    subst hr
    exact W.sat_bind put_hp fun s1 h1 => W.sat_pure (h1.trans hg)
/-! ### equality of what a state says, for what is looked at -/
def listEq {α : Type} (f : α → α → Bool) : List α → List α → Bool
  | [], [] => true
  | a :: l, b :: m => match f a b with | true => listEq f l m | false => false
  | _, _ => false
theorem listEq_eq {α : Type} {f : α → α → Bool} (hf : ∀ a b, f a b = true → a = b) : ∀ {l m : List α}, listEq f l m = true → l = m
  | [], [], _ => rfl
  | a :: l, b :: m, h => by
    simp only [listEq] at h
    split at h
    · rename_i h1
      rw [hf a b h1, listEq_eq hf h]
    · cases h
  | [], _ :: _, h => by cases h
  | _ :: _, [], h => by cases h
def avEq : Nat → AV → AV → Bool
  | 0, _, _ => false
  | k + 1, a, b =>
    match a, b with
    | .any, .any => true
    | .bool x, .bool y => x == y
    | .int p x, .int q y => decide (p = q) && decide (x = y)
    | .str x, .str y => decide (x = y)
    | .ptr i o, .ptr j p => Nat.beq i j && Nat.beq o p
    | .nilp, .nilp => true
    | .nils, .nils => true
    | .nilf, .nilf => true
    | .nili, .nili => true
    | .nilm, .nilm => true
    | .mapr i, .mapr j => Nat.beq i j
    | .sl i o l c e z, .sl i' o' l' c' e' z' => Nat.beq i i' && Nat.beq o o' && Nat.beq l l' && Nat.beq c c' && (e == e') && Nat.beq z z'
    | .vec i n z, .vec i' n' z' => Nat.beq i i' && Nat.beq n n' && Nat.beq z z'
    | .agg c, .agg d => listEq (avEq k) c d
    | .tup c, .tup d => listEq (avEq k) c d
    | .ifc s v, .ifc t u => Nat.beq s t && avEq k v u
    | _, _ => false
theorem avEq_eq : ∀ (k : Nat) (a b : AV), avEq k a b = true → a = b
  | 0, _, _, h => by cases h
  | k + 1, a, b, h => by
    unfold avEq at h
    split at h
    · rfl
    · simp at h; rw [h]
    · simp only [Bool.and_eq_true, decide_eq_true_eq] at h; rw [h.1, h.2]
    · simp only [decide_eq_true_eq] at h; rw [h]
    · simp only [Bool.and_eq_true] at h; rw [Nat.eq_of_beq_eq_true h.1, Nat.eq_of_beq_eq_true h.2]
    · rfl
    · rfl
    · rfl
    · rfl
    · rfl
    · rw [Nat.eq_of_beq_eq_true h]
    · simp only [Bool.and_eq_true, beq_iff_eq] at h
      obtain ⟨⟨⟨⟨⟨h1, h2⟩, h3⟩, h4⟩, h5⟩, h6⟩ := h
      rw [Nat.eq_of_beq_eq_true h1, Nat.eq_of_beq_eq_true h2, Nat.eq_of_beq_eq_true h3, Nat.eq_of_beq_eq_true h4, h5, Nat.eq_of_beq_eq_true h6]
    · simp only [Bool.and_eq_true] at h
      rw [Nat.eq_of_beq_eq_true h.1.1, Nat.eq_of_beq_eq_true h.1.2, Nat.eq_of_beq_eq_true h.2]
    · rw [listEq_eq (avEq_eq k) h]
    · rw [listEq_eq (avEq_eq k) h]
    · simp only [Bool.and_eq_true] at h
      rw [Nat.eq_of_beq_eq_true h.1, avEq_eq k _ _ h.2]
    · cases h
def obEq : Option Ob → Option Ob → Bool
  | none, none => true
  | some (.blk a), some (.blk b) => listEq (avEq 8) a.c b.c && Nat.beq a.e b.e && (a.ext == b.ext) && Nat.beq a.fz b.fz && (a.pl == b.pl) && (a.o == b.o) && a.it.isNone && b.it.isNone
  | _, _ => false
theorem obEq_eq {a b : Option Ob} (h : obEq a b = true) : a = b := by
  unfold obEq at h
  split at h
  · rfl
  · rename_i a b
    obtain ⟨c, e, x, f, p, o, it⟩ := a
    obtain ⟨c', e', x', f', p', o', it'⟩ := b
    simp only [Bool.and_eq_true, beq_iff_eq, Option.isNone_iff_eq_none] at h
    obtain ⟨⟨⟨⟨⟨⟨⟨h1, h2⟩, h3⟩, h4⟩, h5⟩, h6⟩, h7⟩, h8⟩ := h
    subst h7 h8
    rw [listEq_eq (avEq_eq 8) h1, Nat.eq_of_beq_eq_true h2, h3, Nat.eq_of_beq_eq_true h4, h5, h6]
  · cases h
def eqOn (a b : Tr Ob) : List Nat → Prop
  | [] => True
  | x :: l => a.get x = b.get x ∧ eqOn a b l
theorem eqOn_get {a b : Tr Ob} {x : Nat} : ∀ {l : List Nat}, eqOn a b l → x ∈ l → a.get x = b.get x
  | [], _, h => by cases h
  | y :: l, ⟨h1, h2⟩, h => by
    rcases List.mem_cons.1 h with rfl | h
    · exact h1
    · exact eqOn_get h2 h
def oweEq (st : Bool) (a b : Tr Ob) (l : List Nat) : W Unit :=
  match st with
  | true => W.pure ()
  | false => match l with | [] => W.pure () | l => W.owe (eqOn a b l)
def noOwe (told : Option (List Nat)) (op : Op) (sy tr : Bool) : Bool := match tr, told with | true, _ => false | _, some _ => false | _, none => stillOp op || !sy
/-- the numbers that an operation writes: as told; none; those that it did away with, the others being owed; or all that differ -/
def wrIn (op : Op) (told : Option (List Nat)) (sy : Bool) (a b : Tr Ob) (fp : List Nat) : List Nat :=
  match told with
  | some l => l
  | none =>
    match stillOp op with
    | true => []
    | false =>
      match sy with
      | false => fp.filter fun x => !obEq (a.get x) (b.get x)
      | true => match op with | .store _ _ _ => fp | _ => fp.filter fun x => (a.get x).isNone
def ancE : List Edge → List Nat → Nat → Nat
  | [], _, acc => acc
  | e :: es, ms, acc => match Region.binds .any e with | true => ancE es ms (acc ||| (1 <<< e.on) ||| ms.getD e.on 0) | false => ancE es ms acc
theorem ancE_spec {j : Nat} : ∀ (es : List Edge) (ms : List Nat) (acc : Nat), Nat.testBit (ancE es ms acc) j = true →
    Nat.testBit acc j = true ∨ ∃ e ∈ es, Region.binds .any e = true ∧ (j = e.on ∨ Nat.testBit (ms.getD e.on 0) j = true)
  | [], ms, acc, h => .inl h
  | e :: es, ms, acc, h => by
    simp only [ancE] at h
    split at h
    · rename_i hb
      rcases ancE_spec es ms _ h with h1 | ⟨e', h1, h2, h3⟩
      · simp only [Nat.testBit_or, Bool.or_eq_true] at h1
        rcases h1 with (h1 | h1) | h1
        · exact .inl h1
        · rw [Nat.one_shiftLeft, Nat.testBit_two_pow] at h1
          exact .inr ⟨e, by simp, hb, .inl (of_decide_eq_true h1).symm⟩
        · exact .inr ⟨e, by simp, hb, .inr h1⟩
      · exact .inr ⟨e', List.mem_cons_of_mem _ h1, h2, h3⟩
    · rcases ancE_spec es ms _ h with h1 | ⟨e', h1, h2, h3⟩
      · exact .inl h1
      · exact .inr ⟨e', List.mem_cons_of_mem _ h1, h2, h3⟩
/-- the numbers that these temporaries lead to -/
def fpOf (C : St) (lk : List Nat) : List Nat := reach C.hp.m 4000 (lk.flatMap fun t => match C.tm.get t with | some v => idsN 6 v | none => []) []
def fin (P : Program) (o : Oper) (lk fp : List Nat) (told : Option (List Nat)) (sy tr : Bool) (anc : Nat) (C : St) (r : AEx × St × List CH) : W (Rec × List CH) :=
  match r.1, r.2.1.df with
  | .normal, [] =>
    match Nat.ble C.hp.nx r.2.1.hp.nx, (wrIn o.op told sy r.2.1.hp.m C.hp.m fp).all (fun x => memN x fp), (match o.dst with | none => some AV.any | some d => r.2.1.tm.get d) with
    | true, true, some v =>
      (oweEq (noOwe told o.op sy tr) r.2.1.hp.m C.hp.m (fp.filter fun x => !memN x (wrIn o.op told sy r.2.1.hp.m C.hp.m fp))).bind fun _ =>
        W.pure (⟨o.dst, lk, v, C.hp.nx, r.2.1.hp.nx, fp, wrIn o.op told sy r.2.1.hp.m C.hp.m fp, obL r.2.1.hp.m (wrIn o.op told sy r.2.1.hp.m C.hp.m fp ++ List.range' C.hp.nx (r.2.1.hp.nx - C.hp.nx)), anc⟩, r.2.2)
    | _, _, _ => W.fail
  | _, _ => W.fail
def recOf2 (P : Program) (G : Nat → AV) (callB : CallB) (ops : Array Oper) (o : Oper) (lk fp : List Nat) (anc : Nat) (C : St) (i : Nat) (hs : List CH) : W (Rec × List CH) :=
  match okT C.tm fp lk, okH C.hp.m C.hp.nx fp with
  | true, true =>
    match hs with
    | .draw wr :: hs' => (evStepT P G callB ops i ⟨restT C.tm lk, C.nt, ⟨restT C.hp.m fp, C.hp.nx⟩, []⟩ hs').bind fun r => fin P o lk fp (some wr.flatten) true r.2 anc C r.1
    | [] => (evStepT P G callB ops i ⟨restT C.tm lk, C.nt, ⟨restT C.hp.m fp, C.hp.nx⟩, []⟩ []).bind fun r => fin P o lk fp none false r.2 anc C r.1
    | hs => (evStepT P G callB ops i ⟨restT C.tm lk, C.nt, ⟨restT C.hp.m fp, C.hp.nx⟩, []⟩ hs).bind fun r => fin P o lk fp none true r.2 anc C r.1
  | _, _ => W.fail
/-- an op that makes a value of one temporary's value alone: it looks at no memory -/
def pureV (P : Program) (o : Oper) (C : St) : Option (Nat × AV) :=
  match o.op with
  | .move (.tmp t) => match C.tm.get t with | some v => some (t, v) | none => none
  | .nilCheck (.tmp t) => match C.tm.get t with | some (.ptr i k) => some (t, .ptr i k) | _ => none
  | .fieldAddr s (.tmp t) f => match C.tm.get t with | some v => (match aFieldAddr P s v f with | some v' => some (t, v') | none => none) | none => none
  | _ => none
theorem pureV_spec {o : Oper} {C : St} {t : Nat} {v : AV} (h : pureV P o C = some (t, v)) : ∃ v0, C.tm.get t = some v0 ∧
    (∀ (μ : Nat → Option Loc) (ro : Nat → Prop) (w : World) (ev : Operand → Value), Rep μ ro w true v0 (ev (.tmp t)) → ∃ y, (execOp ev o).run P w = .ok (.value y) w ∧ Rep μ ro w true v y) := by
  unfold pureV at h
  split at h
  · rename_i t' hop
    split at h
    · rename_i v' hv
      simp only [Option.some.injEq, Prod.mk.injEq] at h
      obtain ⟨rfl, rfl⟩ := h
      exact ⟨_, hv, fun μ ro w ev hr => ⟨ev (.tmp _), by unfold execOp; rw [hop]; rfl, hr⟩⟩
    · cases h
  · rename_i t' hop
    split at h
    · rename_i i k hv
      simp only [Option.some.injEq, Prod.mk.injEq] at h
      obtain ⟨rfl, rfl⟩ := h
      refine ⟨_, hv, fun μ ro w ev hr => ⟨ev (.tmp _), ?_, hr⟩⟩
      unfold execOp
      rw [hop]
      simp only
      cases he : ev (.tmp t') <;> rw [he] at hr <;> cases hr
      rfl
    · cases h
  · rename_i s t' f hop
    split at h
    · rename_i v0 hv
      split at h
      · rename_i v' hf
        simp only [Option.some.injEq, Prod.mk.injEq] at h
        obtain ⟨rfl, rfl⟩ := h
        refine ⟨_, hv, fun μ ro w ev hr => ?_⟩
        obtain ⟨y, h1, h2⟩ := aFieldAddr_run hf hr
        refine ⟨y, ?_, h2⟩
        unfold execOp
        rw [hop]
        simp only [Sem.run_bind, h1, Result.andThen_ok, Sem.run_pure]
      · cases h
    · cases h
  · cases h
def mvH (o : Oper) (hs : List CH) : Bool :=
  match hs, o.op with
  | .op none .c :: _, .move _ => true
  | [], _ => true
  | _, _ => false
def mvOf (P : Program) (ops : Array Oper) (o : Oper) (C : St) (hs : List CH) : Option (Nat × AV) :=
  match o.guard, o.dst, mvH o hs with
  | none, some d, true =>
    match pureV P o C with
    | some (t, v) => match memN t (o.looksAt ops), Nat.blt d C.nt with | true, true => some (d, v) | _, _ => none
    | none => none
  | _, _, _ => none
def recOf (P : Program) (G : Nat → AV) (callB : CallB) (ops : Array Oper) (ms : List Nat) (C : St) (i : Nat) (hs : List CH) : W (Rec × List CH) :=
  match ops[i]? with
  | none => W.fail
  | some o =>
    match mvOf P ops o C hs with
    | some (d, v) => W.pure (⟨some d, o.looksAt ops, v, C.hp.nx, C.hp.nx, [], [], [], ancE o.after.toList ms 0⟩, hs.tail)
    | none => recOf2 P G callB ops o (o.looksAt ops) (fpOf C (o.looksAt ops)) (ancE o.after.toList ms 0) C i hs
theorem mvOf_spec {ops : Array Oper} {o : Oper} {C : St} {hs : List CH} {d : Nat} {v : AV} (h : mvOf P ops o C hs = some (d, v)) :
    ∃ t v0, o.guard = none ∧ o.dst = some d ∧ memN t (o.looksAt ops) = true ∧ C.tm.get t = some v0 ∧ d < C.nt ∧
    (∀ (μ : Nat → Option Loc) (ro : Nat → Prop) (w : World) (ev : Operand → Value), Rep μ ro w true v0 (ev (.tmp t)) → ∃ y, (execOp ev o).run P w = .ok (.value y) w ∧ Rep μ ro w true v y) := by
  unfold mvOf at h
  split at h
  · rename_i d' h1 h2 h3
    split at h
    · rename_i t v' hp
      split at h
      · rename_i q1 q2
        simp only [Option.some.injEq, Prod.mk.injEq] at h
        obtain ⟨rfl, rfl⟩ := h
        obtain ⟨v0, p1, p2⟩ := pureV_spec hp
        exact ⟨t, v0, h1, h2, q1, p1, Nat.le_of_ble_eq_true q2, p2⟩
      · cases h
    · cases h
  · cases h
theorem recOf_sat {callB : CallB} (hcall : ∀ f args h hs, (callB f args h hs).sat fun r => CallDoes P G f args h r.1 r.2.1) {ops : Array Oper} {ms : List Nat} {C : St} {i : Nat} {hs : List CH} :
    (recOf P G callB ops ms C i hs).sat fun r => RecK P G ops C i r.1 ∧ ∃ o, ops[i]? = some o ∧ r.1.anc = ancE o.after.toList ms 0 := by
  unfold recOf
  split
  · exact W.sat_fail
  · rename_i o ho
    split
    · rename_i d v hmv
      obtain ⟨t, v0, h1, h2, h3, h4, h5, h6⟩ := mvOf_spec hmv
      exact W.sat_pure ⟨.inr ⟨⟨o, t, d, v0, ho, h1, h2, rfl, h3, h4, h5, h6⟩, rfl, rfl, rfl, rfl, rfl⟩, o, ho, rfl⟩
    unfold recOf2
    split
    · rename_i hT hH
      have key : ∀ (told : Option (List Nat)) (sy : Bool) (hs : List CH), ((evStepT P G callB ops i ⟨restT C.tm (o.looksAt ops), C.nt, ⟨restT C.hp.m (fpOf C (o.looksAt ops)), C.hp.nx⟩, []⟩ hs).bind fun r => fin P o (o.looksAt ops) (fpOf C (o.looksAt ops)) told sy r.2 (ancE o.after.toList ms 0) C r.1).sat
          fun r => RecK P G ops C i r.1 ∧ ∃ o, ops[i]? = some o ∧ r.1.anc = ancE o.after.toList ms 0 := fun told sy hs => by
        have hstill : (evStepT P G callB ops i ⟨restT C.tm (o.looksAt ops), C.nt, ⟨restT C.hp.m (fpOf C (o.looksAt ops)), C.hp.nx⟩, []⟩ hs).sat fun r => r.2 = false → stillOp o.op = true → r.1.2.1.hp = ⟨restT C.hp.m (fpOf C (o.looksAt ops)), C.hp.nx⟩ := by
          cases hst : stillOp o.op with
          | false => intro _ _ _ _ _ h; cases h
          | true =>
            unfold evStepT
            cases ht : isTr hs with
            | true =>
              refine W.sat_bind (Q := fun _ => True) (fun _ _ _ _ => trivial) fun q _ => ?_
              split
              · refine W.sat_bind (Q := fun _ => True) (fun _ _ _ _ => trivial) fun r _ => ?_
                split
                · exact W.sat_bind (Q := fun _ => True) (fun _ _ _ _ => trivial) fun z _ => W.sat_pure fun h => by simp at h
                · exact W.sat_pure fun h => by simp at h
              · exact W.sat_fail
            | false =>
              rw [evTrs_none ht]
              refine W.sat_bind (W.sat_pure (Q := fun q => q = (_, hs)) rfl) fun q hq => ?_
              subst hq
              split
              · refine W.sat_bind (evStep_still ho hst) fun r hr => ?_
                split
                · cases ht2 : isTr r.2.2 with
                  | true => exact W.sat_bind (Q := fun _ => True) (fun _ _ _ _ => trivial) fun z _ => W.sat_pure fun h => by simp at h
                  | false =>
                    rw [evTps_none ht2]
                    exact W.sat_bind (W.sat_pure (Q := fun q => q.1 = r.2.1) rfl) fun z hz => W.sat_pure fun _ _ => by simp only [hz]; exact hr
                · exact W.sat_pure fun h => by simp at h
              · exact W.sat_fail
        have both : (evStepT P G callB ops i ⟨restT C.tm (o.looksAt ops), C.nt, ⟨restT C.hp.m (fpOf C (o.looksAt ops)), C.hp.nx⟩, []⟩ hs).sat fun r => StepDoes P G ops i ⟨restT C.tm (o.looksAt ops), C.nt, ⟨restT C.hp.m (fpOf C (o.looksAt ops)), C.hp.nx⟩, []⟩ r.1.1 r.1.2.1 ∧ (r.2 = false → stillOp o.op = true → r.1.2.1.hp = ⟨restT C.hp.m (fpOf C (o.looksAt ops)), C.hp.nx⟩) :=
          fun r ps he hok => ⟨evStepT_sat hcall r ps he hok, hstill r ps he hok⟩
        refine W.sat_bind both fun r ⟨hr, hst⟩ => ?_
        obtain ⟨⟨e, s1, hs1⟩, tr⟩ := r
        unfold fin
        split
        · rename_i e1 e2
          simp only at e1 e2 hr hst
          subst e1
          split
          · rename_i v hb hw hv
            simp only at hb hv hw
            generalize hwr : wrIn o.op told sy s1.hp.m C.hp.m (fpOf C (o.looksAt ops)) = wr at hw ⊢
            have heq : (oweEq (noOwe told o.op sy tr) s1.hp.m C.hp.m ((fpOf C (o.looksAt ops)).filter fun x => !memN x wr)).sat fun _ => ∀ x, memN x (fpOf C (o.looksAt ops)) = true → memN x wr = false → s1.hp.m.get x = C.hp.m.get x := by
              have owe : (oweEq false s1.hp.m C.hp.m ((fpOf C (o.looksAt ops)).filter fun x => !memN x wr)).sat fun _ => ∀ x, memN x (fpOf C (o.looksAt ops)) = true → memN x wr = false → s1.hp.m.get x = C.hp.m.get x := by
                unfold oweEq
                simp only
                split
                · rename_i hnil
                  refine W.sat_pure fun x hx hw' => ?_
                  have : x ∈ ((fpOf C (o.looksAt ops)).filter fun x => !memN x wr) := List.mem_filter.2 ⟨memN_iff.1 hx, by simp [hw']⟩
                  rw [hnil] at this; cases this
                · exact W.sat_mono W.sat_owe fun _ h x hx hw' => eqOn_get h (List.mem_filter.2 ⟨memN_iff.1 hx, by simp [hw']⟩)
              cases tr with
              | true => exact owe
              | false =>
              cases told with
              | some l => exact owe
              | none =>
                cases hso : stillOp o.op with
                | true =>
                  simp only [noOwe, hso, Bool.true_or]
                  refine W.sat_pure fun x hx _ => ?_
                  rw [hst rfl hso]
                  simp only [restT_get, if_pos hx]
                | false =>
                  cases sy with
                  | true => simp only [noOwe, hso, Bool.false_or, Bool.not_true]; exact owe
                  | false =>
                    simp only [noOwe, hso, Bool.false_or, Bool.not_false]
                    refine W.sat_pure fun x hx hw' => ?_
                    cases he : obEq (s1.hp.m.get x) (C.hp.m.get x) with
                    | true => exact obEq_eq he
                    | false =>
                      have : x ∈ wr := by
                        rw [← hwr]
                        simp only [wrIn, hso]
                        exact List.mem_filter.2 ⟨memN_iff.1 hx, by rw [he]; rfl⟩
                      rw [memN_iff.2 this] at hw'; cases hw'
            refine W.sat_bind heq fun _ hkeep => W.sat_pure ⟨.inl ⟨⟨o, ho, rfl⟩, rfl, Nat.le_of_ble_eq_true hb, hT, hH, fun x hx => ?_, s1, hr, e2, rfl, fun d hd => ?_, hkeep, fun x => ?_⟩, o, ho, rfl⟩
            · rw [List.all_eq_true] at hw
              exact hw x (memN_iff.1 hx)
            · simp only at hd
              rw [hd] at hv
              exact hv
            · rw [obL_look]
              have hiff : memN x (wr ++ List.range' C.hp.nx (s1.hp.nx - C.hp.nx)) = true ↔ memN x wr = true ∨ (C.hp.nx ≤ x ∧ x < s1.hp.nx) := by
                rw [memN_iff, List.mem_append, memN_iff, List.mem_range'_1]
                have := Nat.le_of_ble_eq_true hb
                constructor <;> rintro (h | h)
                · exact .inl h
                · exact .inr ⟨h.1, by omega⟩
                · exact .inl h
                · exact .inr ⟨h.1, by omega⟩
              by_cases hc : memN x (wr ++ List.range' C.hp.nx (s1.hp.nx - C.hp.nx)) = true
              · rw [if_pos hc, if_pos (hiff.1 hc)]
              · rw [if_neg hc, if_neg (fun h => hc (hiff.2 h))]
          · exact W.sat_fail
        · exact W.sat_fail
      split
      · exact key _ _ _
      · exact key _ _ _
      · exact key _ _ _
    · exact W.sat_fail
def runD (P : Program) (G : Nat → AV) (callB : CallB) (ops : Array Oper) : List Nat → List Nat → St → List CH → W (List Rec × List CH)
  | [], ms, C, hs => W.pure ([], hs)
  | i :: l, ms, C, hs => (recOf P G callB ops ms C i hs).bind fun r => (runD P G callB ops l (ms ++ [r.1.anc]) (appR r.1 C) r.2).bind fun q => W.pure (r.1 :: q.1, q.2)
theorem runD_sat {callB : CallB} (hcall : ∀ f args h hs, (callB f args h hs).sat fun r => CallDoes P G f args h r.1 r.2.1) {ops : Array Oper} : ∀ (k i : Nat) (ms : List Nat) (C : St) (hs : List CH),
    (runD P G callB ops (List.range' i k) ms C hs).sat fun q => q.1.length = k ∧ ∀ m r, q.1[m]? = some r → RecK P G ops (Cn q.1 C m) (i + m) r ∧ ∃ o, ops[i + m]? = some o ∧ r.anc = ancE o.after.toList (ms ++ (q.1.take m).map Rec.anc) 0
  | 0, i, ms, C, hs => W.sat_pure ⟨rfl, fun m r h => by simp at h⟩
  | k + 1, i, ms, C, hs => by
    simp only [List.range'_succ, runD]
    refine W.sat_bind (recOf_sat hcall) fun r ⟨h1, h2⟩ => W.sat_bind (runD_sat hcall k (i + 1) _ _ _) fun q ⟨h3, h4⟩ => W.sat_pure ⟨by simp [h3], fun m r' hm => ?_⟩
    cases m with
    | zero =>
      simp only [List.getElem?_cons_zero, Option.some.injEq] at hm
      subst hm
      exact ⟨h1, by simpa using h2⟩
    | succ m =>
      simp only [List.getElem?_cons_succ] at hm
      have := h4 m r' hm
      rw [show i + (m + 1) = i + 1 + m by omega]
      refine ⟨this.1, ?_⟩
      simpa [List.append_assoc] using this.2
def indBefore (ri : Rec) : List Rec → Nat → Bool
  | [], _ => true
  | rj :: l, j => match Nat.testBit ri.anc j with | true => indBefore ri l (j + 1) | false => match indep rj ri with | true => indBefore ri l (j + 1) | false => false
def indAll : List Rec → List Rec → Bool
  | _, [] => true
  | pre, r :: l => match indBefore r pre 0 with | true => indAll (pre ++ [r]) l | false => false
theorem indBefore_spec {ri : Rec} : ∀ {l : List Rec} {a : Nat}, indBefore ri l a = true → ∀ j rj, l[j]? = some rj → Nat.testBit ri.anc (a + j) = false → indep rj ri = true
  | [], a, _, j, rj, h, _ => by simp at h
  | r :: l, a, hb, j, rj, h, ht => by
    simp only [indBefore] at hb
    have hrest : indBefore ri l (a + 1) = true := by
      split at hb
      · exact hb
      · split at hb
        · exact hb
        · cases hb
    cases j with
    | zero =>
      simp only [List.getElem?_cons_zero, Option.some.injEq] at h
      subst h
      simp only [Nat.add_zero] at ht
      rw [ht] at hb
      simp only at hb
      split at hb
      · assumption
      · cases hb
    | succ j =>
      simp only [List.getElem?_cons_succ] at h
      exact indBefore_spec hrest j rj h (by rw [show a + 1 + j = a + (j + 1) by omega]; exact ht)
theorem indAll_spec : ∀ {l pre : List Rec}, indAll pre l = true → ∀ i ri, l[i]? = some ri → ∀ j rj, j < pre.length + i → (pre ++ l)[j]? = some rj → Nat.testBit ri.anc j = false → indep rj ri = true
  | [], pre, _, i, ri, h, _, _, _, _, _ => by simp at h
  | r :: l, pre, hb, i, ri, h, j, rj, hj, hrj, ht => by
    simp only [indAll] at hb
    split at hb
    · rename_i hb1
      cases i with
      | zero =>
        simp only [List.getElem?_cons_zero, Option.some.injEq] at h
        subst h
        refine indBefore_spec hb1 j rj ?_ (by rw [Nat.zero_add]; exact ht)
        rw [List.getElem?_append_left (by omega)] at hrj
        exact hrj
      | succ i =>
        simp only [List.getElem?_cons_succ] at h
        refine indAll_spec hb i ri h j rj (by simp; omega) ?_ ht
        rw [List.append_assoc]; exact hrj
    · cases hb
def ordB (ops : Array Oper) : List Nat → Bool
  | [] => true
  | i :: l => match ops[i]? with | some o => (o.after.toList.all fun e => match Region.binds .any e with | true => Nat.blt e.on i | false => true) && ordB ops l | none => false
theorem ordB_spec {ops : Array Oper} : ∀ {l : List Nat}, ordB ops l = true → ∀ i ∈ l, ∀ o, ops[i]? = some o → ∀ e ∈ o.after, Region.binds .any e = true → e.on < i
  | [], _, i, h, _, _, _, _, _ => by cases h
  | k :: l, hb, i, h, o, ho, e, he, hbd => by
    simp only [ordB] at hb
    split at hb
    · rename_i o' ho'
      simp only [Bool.and_eq_true] at hb
      rcases List.mem_cons.1 h with rfl | h
      · rw [ho] at ho'; cases ho'
        have := hb.1
        rw [List.all_eq_true] at this
        have := this e (by simpa using he)
        rw [hbd] at this
        exact Nat.le_of_ble_eq_true this
      · exact ordB_spec hb.2 i h o ho e he hbd
    · cases hb
def evDraw (P : Program) (G : Nat → AV) (callB : CallB) (n : Nat) (ops : Array Oper) (s : St) (hs : List CH) : W (AEx × St × List CH) :=
  match P.follows .mixedOrders, s.df, Nat.ble n s.hp.nx, ordB ops (List.range ops.size) with
  | true, [], true, true =>
    (runD P G callB ops (List.range' 0 ops.size) [] s hs).bind fun q =>
      match indAll [] q.1 with
      | true => W.pure (.normal, q.1.foldl (fun s r => appR r s) s, q.2)
      | false => W.fail
  | _, _, _, _ => W.fail
theorem len_filter_lt {p q : Nat → Bool} (h : ∀ x, q x = true → p x = true) {i : Nat} : ∀ {l : List Nat}, i ∈ l → p i = true → q i = false → (l.filter q).length < (l.filter p).length
  | [], h1, _, _ => by cases h1
  | x :: l, h1, hp, hq => by
    have le : ∀ l : List Nat, (l.filter q).length ≤ (l.filter p).length := fun l => by
      induction l with
      | nil => simp
      | cons y l ih =>
        simp only [List.filter_cons]
        cases hqy : q y with
        | true => rw [if_pos rfl, if_pos (h y hqy)]; simp; exact ih
        | false => cases hpy : p y <;> simp <;> omega
    simp only [List.filter_cons]
    rcases List.mem_cons.1 h1 with rfl | h1
    · rw [hp, hq]
      have := le l
      simp; omega
    · have ih := len_filter_lt h h1 hp hq
      cases hqx : q x with
      | true => rw [if_pos rfl, if_pos (h x hqx)]; simp; exact ih
      | false => cases hpx : p x <;> simp <;> omega
theorem stF_eq : ∀ {l : List Rec} {i : Nat} {D D' : Nat → Bool} {s : St}, (∀ k, k < l.length → D (i + k) = D' (i + k)) → stF l i D s = stF l i D' s
  | [], _, _, _, _, _ => rfl
  | r :: l, i, D, D', s, h => by
    have h0 := h 0 (by simp)
    simp only [Nat.add_zero] at h0
    simp only [stF, h0]
    exact stF_eq fun k hk => by
      have := h (k + 1) (by simp; omega)
      rw [show i + 1 + k = i + (k + 1) by omega]; exact this
section
variable {ops : Array Oper} {L : List Rec} {s0 : St}
theorem Inv.congr {n : Nat} {μ0 : Nat → Option Loc} {ro0 : Nat → Prop} {w0 : World} {D D' : Nat → Bool} {a : Act} {w : World} (h : Inv G n L s0 μ0 ro0 w0 D a w) (hD : ∀ k, k < L.length → D k = D' k) : Inv G n L s0 μ0 ro0 w0 D' a w := by
  obtain ⟨μ, ro, h1, h2, h3⟩ := h
  refine ⟨μ, ro, h1, ?_, fun j r hr hd => h3 j r hr (by rw [hD j (List.getElem?_eq_some_iff.1 hr).1]; exact hd)⟩
  have : stD L s0 D' = stD L s0 D := by
    unfold stD
    rw [stF_eq (D := D') (D' := D) fun k hk => by rw [Nat.zero_add]; exact (hD k hk).symm]
  rw [this]; exact h2
theorem draw_any {n : Nat} {Q : Exit → Act → World → Prop} {μ0 : Nat → Option Loc} {ro0 : Nat → Prop} {w0 : World} (hrun : RunOk P G ops L s0) (hlen : L.length = ops.size) (hn : n ≤ s0.hp.nx)
    (hanc : ∀ (i : Nat) (r : Rec) (o : Oper), L[i]? = some r → ops[i]? = some o → ∀ j, Nat.testBit r.anc j = true → ∃ e ∈ o.after, Region.binds .any e = true ∧ (j = e.on ∨ ∃ r', L[e.on]? = some r' ∧ Nat.testBit r'.anc j = true))
    (hord : ∀ (i : Nat) (o : Oper), ops[i]? = some o → ∀ e ∈ o.after, Region.binds .any e = true → e.on < i)
    (hQ : ∀ a w, Inv G n L s0 μ0 ro0 w0 (fun j => decide (j < L.length)) a w → Q .normal a w) :
    ∀ (fuel : Nat) (listed : Array Bool) (a : Act) (w : World), listed.size = ops.size →
      (∀ j oj, ops[j]? = some oj → listed.getD j false = true → ∀ e ∈ oj.after, Region.binds .any e = true → listed.getD e.on false = true) →
      ((List.range ops.size).filter fun j => !listed.getD j true).length ≤ fuel → Inv G n L s0 μ0 ro0 w0 (fun j => listed.getD j false) a w → wpAny P .any ops Q fuel listed a w := by
  -- all has come up when nothing is ready
  have done : ∀ (listed : Array Bool) (a : Act) (w : World), listed.size = ops.size → Region.ready .any ops listed = [] → Inv G n L s0 μ0 ro0 w0 (fun j => listed.getD j false) a w → Q .normal a w := by
    intro listed a w hsz hr hinv
    have all : ∀ i, i < ops.size → listed.getD i false = true := by
      intro i
      induction i using Nat.strongRecOn with
      | _ i ih =>
        intro hi
        cases hl : listed.getD i false with
        | true => rfl
        | false =>
          have : i ∈ Region.ready .any ops listed := mem_ready.2 ⟨getD_in (by omega) hl, ops[i], by simp [hi], fun e he hb => ih e.on (hord i ops[i] (by simp [hi]) e he hb) (Nat.lt_trans (hord i ops[i] (by simp [hi]) e he hb) hi)⟩
          rw [hr] at this; cases this
    exact hQ a w (hinv.congr fun k hk => by rw [all k (by rw [← hlen]; exact hk)]; simp [hk])
  intro fuel
  induction fuel with
  | zero =>
    intro listed a w hsz hcl hcnt hinv
    have hr : Region.ready .any ops listed = [] := by
      apply List.eq_nil_iff_forall_not_mem.2
      intro i hi
      obtain ⟨h1, o, h2, _⟩ := mem_ready.1 hi
      have : i ∈ (List.range ops.size).filter fun j => !listed.getD j true := List.mem_filter.2 ⟨List.mem_range.2 (Array.getElem?_eq_some_iff.1 h2).1, by rw [h1]; rfl⟩
      have h0 := List.length_eq_zero_iff.1 (Nat.le_zero.1 hcnt)
      rw [h0] at this; cases this
    exact ⟨hr, done listed a w hsz hr hinv⟩
  | succ fuel ih =>
    intro listed a w hsz hcl hcnt hinv
    refine ⟨fun hr => done listed a w hsz hr hinv, fun i hi => ?_⟩
    obtain ⟨h1, o, h2, h3⟩ := mem_ready.1 hi
    have hilt := (Array.getElem?_eq_some_iff.1 h2).1
    obtain ⟨r, hr⟩ : ∃ r, L[i]? = some r := ⟨L[i]'(by rw [hlen]; exact hilt), by simp⟩
    have hclD : ∀ j, listed.getD j false = true → ∀ rj, L[j]? = some rj → ∀ k, Nat.testBit rj.anc k = true → listed.getD k false = true := by
      intro j
      induction j using Nat.strongRecOn with
      | _ j ihj =>
        intro hj rj hrj k hk
        obtain ⟨oj, hoj⟩ : ∃ oj, ops[j]? = some oj := ⟨ops[j]'(by rw [← hlen]; exact (List.getElem?_eq_some_iff.1 hrj).1), by simp⟩
        obtain ⟨e, he, hb, hc⟩ := hanc j rj oj hrj hoj k hk
        have hon := hcl j oj hoj hj e he hb
        rcases hc with rfl | ⟨r', hr', hk'⟩
        · exact hon
        · exact ihj e.on (hord j oj hoj e he hb) hon r' hr' k hk'
    have hstep := draw_step (Q := Q) hrun hn hr (getD_both h1) (fun j hj => by
      obtain ⟨e, he, hb, hc⟩ := hanc i r o hr h2 j hj
      have hon := h3 e he hb
      rcases hc with rfl | ⟨r', hr', hk'⟩
      · exact hon
      · exact hclD e.on hon r' hr' j hk') (fun j rj hrj hd k hk => hclD j hd rj hrj k hk) hinv
    refine wpOp_mono (fun a' w' h' => ih (listed.setIfInBounds i true) a' w' (by simp [hsz]) (fun j oj hj hl e he hb => ?_) ?_ (h'.congr fun k hk => ?_)) hstep
    · by_cases hij : i = j
      · subst hij
        rw [h2] at hj; cases hj
        exact getD_set_true (h3 e he hb)
      · rw [getD_set_ne false hij] at hl
        exact getD_set_true (hcl j oj hj hl e he hb)
    · have := len_filter_lt (p := fun j => !listed.getD j true) (q := fun j => !(listed.setIfInBounds i true).getD j true) (fun x hx => by
        by_cases e : i = x
        · subst e
          exfalso
          simp [hsz, hilt] at hx
        · rw [getD_set_ne true e] at hx; exact hx) (List.mem_range.2 hilt) (by rw [h1]; rfl) (by simp [hsz, hilt])
      omega
    · by_cases e : k = i
      · subst e
        simp [hsz, hilt]
      · simp only [if_neg e]
        rw [getD_set_ne false (Ne.symm e)]
end
theorem evDraw_sat {callB : CallB} (hcall : ∀ f args h hs, (callB f args h hs).sat fun r => CallDoes P G f args h r.1 r.2.1) {n id : Nat} {ops : Array Oper} {s : St} {hs : List CH} :
    (evDraw P G callB n ops s hs).sat fun r => Does P G n (.region id ops true) s r.1 r.2.1 := by
  unfold evDraw
  split
  · rename_i hm hdf hn hord
    refine W.sat_bind (runD_sat hcall ops.size 0 [] s hs) fun q ⟨hlen, hrec⟩ => ?_
    split
    · rename_i hind
      refine W.sat_pure fun μ0 ro0 a w hst => ?_
      have hrun : RunOk P G ops q.1 s := ⟨Nat.le_of_eq hlen, hdf, fun i r hr => by have := (hrec i r hr).1; rw [Nat.zero_add] at this; exact this,
        fun j i rj ri hj hrj hri ht => indAll_spec hind i ri hri j rj (by simp; exact hj) (by simpa using hrj) ht⟩
      have hCn : Cn q.1 s q.1.length = q.1.foldl (fun s r => appR r s) s := by unfold Cn; rw [List.take_length]
      refine wp_region_any hm (draw_any hrun hlen (Nat.le_of_ble_eq_true hn) (μ0 := μ0) (ro0 := ro0) (w0 := w) (fun i r o hr ho j hj => ?_) (fun i o ho e he hb => ordB_spec hord i (List.mem_range.2 (Array.getElem?_eq_some_iff.1 ho).1) o ho e he hb) (fun a' w' hinv => ?_) ops.size _ a _ (by simp)
        (fun j oj hj hl => by rw [getD_replicate_false] at hl; cases hl) ?_ ⟨μ0, ro0, ?_, ?_, ?_⟩)
      · obtain ⟨_, o', ho', ha⟩ := hrec i r hr
        rw [Nat.zero_add] at ho'
        rw [ho] at ho'; cases ho'
        rw [ha] at hj
        rcases ancE_spec _ _ _ hj with h | ⟨e, he, hb, h⟩
        · simp at h
        · refine ⟨e, by simpa using he, hb, ?_⟩
          rcases h with h | h
          · exact .inl h
          · right
            simp only [List.nil_append] at h
            rw [List.getD_eq_getElem?_getD, List.getElem?_map] at h
            cases hq : (q.1.take i)[e.on]? with
            | none => rw [hq] at h; simp at h
            | some r' =>
              rw [hq] at h
              refine ⟨r', ?_, by simpa using h⟩
              rw [List.getElem?_take] at hq
              split at hq
              · exact hq
              · cases hq
      · obtain ⟨μ, ro, h1, h2, _⟩ := hinv
        refine ⟨μ, ro, h1, trivial, ?_⟩
        have : stD q.1 s (fun j => decide (j < q.1.length)) = q.1.foldl (fun s r => appR r s) s := by
          unfold stD
          rw [← Cn_stF, hCn]
        rw [← this]; exact h2
      · exact Nat.le_trans (List.length_filter_le _ _) (by simp)
      · exact ⟨.refl _ _, fun _ h => h, fun _ h => .inl h, ⟨rfl, rfl, rfl, Nat.le_refl _, fun _ _ => rfl, fun _ _ _ => rfl, fun i l h => .inl ⟨i, l, h, rfl⟩⟩⟩
      · have hmono := (hrun.mono (Nat.le_refl _)).2
        have : stF q.1 0 (fun j => (Array.replicate ops.size false).getD j false) s = s := stF_none fun k _ => getD_replicate_false _ _
        have hst' : StRel G μ0 ro0 { w with drawn := w.drawn + 1 } s a :=
          ⟨fun t v ht => (hst.tm t v ht).mono (fun _ _ h => h) (fun _ h => h) (fun _ _ => rfl), hst.nt, hst.hp.same (Nat.le_refl _) (fun _ _ => rfl) (fun _ _ _ _ _ => rfl), hst.gl.mono (fun _ _ h => h) (fun _ h => h) (fun _ _ => rfl), hst.df.mono (fun _ _ h => h) (fun _ h => h) (fun _ _ => rfl)⟩
        unfold stD
        rw [this]
        exact ⟨hst'.tm, hst'.nt, ⟨fun i k hi => (hst'.hp.obs i k hi).imp_right fun ⟨q1, q2, q3⟩ => ⟨q1, q2, Nat.lt_of_lt_of_le q3 hmono⟩, hst'.hp.inj, hst'.hp.own, hst'.hp.lt, hst'.hp.old, fun i hi => hst'.hp.nx i (Nat.le_trans hmono hi)⟩, hst'.gl, hst'.df⟩
      · intro j r hr _ x h1 _
        have := (hrun.rcs j r hr).lo
        have h2 := (hrun.mono (Nat.le_of_lt (List.getElem?_eq_some_iff.1 hr).1)).2
        exact hst.hp.nx x (by omega)
    · exact W.sat_fail
  · exact W.sat_fail
end Go.Proofs.YtnlaiahcemckkaaGreatDoor.Av
/- the last ops of a drawn region, where each of them has all earlier ones ahead of it: one after the other. -/
set_option linter.unusedVariables false
set_option linter.unusedSimpArgs false
namespace Go.Proofs.YtnlaiahcemckkaaGreatDoor.Av
open Go.RowKit
variable {P : Program} {G : Nat → AV} {μ μ' : Nat → Option Loc} {ro ro' : Nat → Prop} {w w' : World}
def edgeTo (ops : Array Oper) (i j : Nat) : Bool :=
  match ops[i]? with
  | some o => o.after.toList.any fun e => Region.binds .any e && Nat.beq e.on j
  | none => false
def tailB (ops : Array Oper) (k : Nat) : Bool := (List.range k).all (edgeTo ops k) && (List.range' (k + 1) (ops.size - (k + 1))).all fun i => edgeTo ops i (i - 1)
theorem edgeTo_spec {ops : Array Oper} {i j : Nat} {o : Oper} (h : edgeTo ops i j = true) (ho : ops[i]? = some o) : ∃ e ∈ o.after, Region.binds .any e = true ∧ e.on = j := by
  unfold edgeTo at h
  rw [ho] at h
  obtain ⟨e, he, hb⟩ := List.any_eq_true.1 h
  simp only [Bool.and_eq_true] at hb
  exact ⟨e, by simpa using he, hb.1, Nat.eq_of_beq_eq_true hb.2⟩
theorem tailB_one {ops : Array Oper} {k : Nat} (h : tailB ops k = true) {j : Nat} (hj : j < k) : edgeTo ops k j = true := by
  unfold tailB at h
  simp only [Bool.and_eq_true, List.all_eq_true] at h
  exact h.1 j (List.mem_range.2 hj)
theorem tailB_two {ops : Array Oper} {k : Nat} (h : tailB ops k = true) {i : Nat} (hk : k < i) (hi : i < ops.size) : edgeTo ops i (i - 1) = true := by
  unfold tailB at h
  simp only [Bool.and_eq_true, List.all_eq_true] at h
  exact h.2 i (List.mem_range'_1.2 ⟨by omega, by omega⟩)
section
variable {ops : Array Oper} {S : Nat → St} {k : Nat}
theorem draw_tail {n : Nat} {Q : Exit → Act → World → Prop} {μ0 : Nat → Option Loc} {ro0 : Nat → Prop} {w0 : World} (ht : tailB ops k = true)
    (hord : ∀ (i : Nat) (o : Oper), ops[i]? = some o → ∀ e ∈ o.after, Region.binds .any e = true → e.on < i)
    (hS : ∀ i, k ≤ i → i < ops.size → StepDoes P G ops i (S i) .normal (S (i + 1)) ∧ n ≤ (S i).hp.nx)
    (hQ : ∀ a w μ ro, Up n μ0 ro0 w0 μ ro w → StRel G μ ro w (S ops.size) a → Q .normal a w) :
    ∀ (fuel m : Nat) (listed : Array Bool) (a : Act) (w : World), k ≤ m → m ≤ ops.size → listed.size = ops.size → (∀ j, j < ops.size → listed.getD j false = decide (j < m)) → ops.size - m ≤ fuel →
      (∃ μ ro, Up n μ0 ro0 w0 μ ro w ∧ StRel G μ ro w (S m) a) → wpAny P .any ops Q fuel listed a w := by
  have only : ∀ (m : Nat) (listed : Array Bool), k ≤ m → listed.size = ops.size → (∀ j, j < ops.size → listed.getD j false = decide (j < m)) → ∀ i ∈ Region.ready .any ops listed, i = m ∧ i < ops.size := by
    intro m listed hkm hsz hl i hi
    obtain ⟨h1, o, h2, h3⟩ := mem_ready.1 hi
    have hilt := (Array.getElem?_eq_some_iff.1 h2).1
    have h0 : listed.getD i false = false := getD_both h1
    rw [hl i hilt] at h0
    have hge : ¬ i < m := by simpa using h0
    refine ⟨?_, hilt⟩
    by_cases e : i = m
    · exact e
    · obtain ⟨ed, he, hb, hon⟩ := edgeTo_spec (tailB_two ht (by omega) hilt) h2
      have := h3 ed he hb
      rw [hon, hl (i - 1) (by omega)] at this
      have : i - 1 < m := by simpa using this
      omega
  have some_ready : ∀ (m : Nat) (listed : Array Bool), m < ops.size → listed.size = ops.size → (∀ j, j < ops.size → listed.getD j false = decide (j < m)) → m ∈ Region.ready .any ops listed := by
    intro m listed hm hsz hl
    refine mem_ready.2 ⟨getD_in (by omega) (by rw [hl m hm]; simp), ops[m], by simp [hm], fun e he hb => ?_⟩
    have := hord m ops[m] (by simp [hm]) e he hb
    rw [hl e.on (by omega)]
    simpa using this
  intro fuel
  induction fuel with
  | zero =>
    intro m listed a w hkm hm hsz hl hf ⟨μ, ro, hup, hst⟩
    have : m = ops.size := by omega
    subst this
    refine ⟨List.eq_nil_iff_forall_not_mem.2 fun i hi => ?_, hQ a w μ ro hup hst⟩
    obtain ⟨rfl, h⟩ := only _ listed hkm hsz hl i hi
    omega
  | succ fuel ih =>
    intro m listed a w hkm hm hsz hl hf ⟨μ, ro, hup, hst⟩
    refine ⟨fun hr => ?_, fun i hi => ?_⟩
    · have : m = ops.size := by
        by_cases e : m < ops.size
        · have := some_ready m listed e hsz hl
          rw [hr] at this; cases this
        · omega
      subst this
      exact hQ a w μ ro hup hst
    · obtain ⟨rfl, hilt⟩ := only m listed hkm hsz hl i hi
      obtain ⟨hd, hn⟩ := hS i hkm hilt
      refine hd μ ro a w Q _ hst fun μ' ro' a' w' hup' hst' => ⟨fun _ _ => ?_, fun v x h => by cases h⟩
      refine ih (i + 1) (listed.setIfInBounds i true) a' w' (by omega) (by omega) (by simp [hsz]) (fun j hj => ?_) (by omega) ⟨μ', ro', hup.trans (hup'.mono hn), hst'⟩
      by_cases e : i = j
      · subst e
        simp [hsz, hilt]
      · rw [getD_set_ne false e, hl j hj]
        by_cases h : j < i
        · simp [h, Nat.lt_succ_of_lt h]
        · have : ¬ j < i + 1 := by omega
          simp [h, this]
theorem draw_pre {L : List Rec} {s0 : St} {n : Nat} {Q : Exit → Act → World → Prop} {μ0 : Nat → Option Loc} {ro0 : Nat → Prop} {w0 : World} (hrun : RunOk P G ops L s0) (hn : n ≤ s0.hp.nx) (hkN : L.length < ops.size) (ht : tailB ops L.length = true)
    (hanc : ∀ (i : Nat) (r : Rec) (o : Oper), L[i]? = some r → ops[i]? = some o → ∀ j, Nat.testBit r.anc j = true → ∃ e ∈ o.after, Region.binds .any e = true ∧ (j = e.on ∨ ∃ r', L[e.on]? = some r' ∧ Nat.testBit r'.anc j = true))
    (hord : ∀ (i : Nat) (o : Oper), ops[i]? = some o → ∀ e ∈ o.after, Region.binds .any e = true → e.on < i)
    (hS : ∀ i, L.length ≤ i → i < ops.size → StepDoes P G ops i (S i) .normal (S (i + 1)) ∧ n ≤ (S i).hp.nx)
    (hS0 : S L.length = stD L s0 (fun j => decide (j < L.length)))
    (hQ : ∀ a w μ ro, Up n μ0 ro0 w0 μ ro w → StRel G μ ro w (S ops.size) a → Q .normal a w) :
    ∀ (fuel : Nat) (listed : Array Bool) (a : Act) (w : World), listed.size = ops.size →
      (∀ j oj, ops[j]? = some oj → listed.getD j false = true → ∀ e ∈ oj.after, Region.binds .any e = true → listed.getD e.on false = true) →
      (∀ j, L.length ≤ j → listed.getD j false = false) →
      ((List.range L.length).filter fun j => !listed.getD j true).length + (ops.size - L.length) ≤ fuel → Inv G n L s0 μ0 ro0 w0 (fun j => listed.getD j false) a w → wpAny P .any ops Q fuel listed a w := by
  intro fuel
  induction fuel with
  | zero => intro listed a w hsz hcl hno hcnt hinv; omega
  | succ fuel ih =>
    intro listed a w hsz hcl hno hcnt hinv
    by_cases hall : ∀ j, j < L.length → listed.getD j false = true
    · have hl : ∀ j, j < ops.size → listed.getD j false = decide (j < L.length) := fun j hj => by
        by_cases h : j < L.length
        · rw [hall j h]; simp [h]
        · rw [hno j (by omega)]; simp [h]
      obtain ⟨μ, ro, h1, h2, _⟩ := hinv.congr (D' := fun j => decide (j < L.length)) fun k hk => hl k (by omega)
      exact draw_tail ht hord hS hQ (fuel + 1) L.length listed a w (Nat.le_refl _) (Nat.le_of_lt hkN) hsz hl (by omega) ⟨μ, ro, h1, by rw [hS0]; exact h2⟩
    · have small : ∀ i ∈ Region.ready .any ops listed, i < L.length := by
        intro i hi
        obtain ⟨h1, o, h2, h3⟩ := mem_ready.1 hi
        have hilt := (Array.getElem?_eq_some_iff.1 h2).1
        by_cases h : i < L.length
        · exact h
        · exfalso
          by_cases e : i = L.length
          · subst e
            refine hall fun j hj => ?_
            obtain ⟨ed, he, hb, hon⟩ := edgeTo_spec (tailB_one ht hj) h2
            have := h3 ed he hb
            rwa [hon] at this
          · obtain ⟨ed, he, hb, hon⟩ := edgeTo_spec (tailB_two ht (by omega) hilt) h2
            have := h3 ed he hb
            rw [hon, hno (i - 1) (by omega)] at this
            cases this
      refine ⟨fun hr => ?_, fun i hi => ?_⟩
      · exfalso
        refine hall fun i => ?_
        induction i using Nat.strongRecOn with
        | _ i ihi =>
          intro hi
          cases hl : listed.getD i false with
          | true => rfl
          | false =>
            have hi2 : i < ops.size := by omega
            have : i ∈ Region.ready .any ops listed := mem_ready.2 ⟨getD_in (by omega) hl, ops[i], by simp [hi2], fun e he hb => ihi e.on (hord i ops[i] (by simp [hi2]) e he hb) (Nat.lt_trans (hord i ops[i] (by simp [hi2]) e he hb) hi)⟩
            rw [hr] at this; cases this
      · have hiL := small i hi
        obtain ⟨h1, o, h2, h3⟩ := mem_ready.1 hi
        have hilt := (Array.getElem?_eq_some_iff.1 h2).1
        obtain ⟨r, hr⟩ : ∃ r, L[i]? = some r := ⟨L[i], by simp⟩
        have hclD : ∀ j, listed.getD j false = true → ∀ rj, L[j]? = some rj → ∀ k, Nat.testBit rj.anc k = true → listed.getD k false = true := by
          intro j
          induction j using Nat.strongRecOn with
          | _ j ihj =>
            intro hj rj hrj k hk
            have hjL := (List.getElem?_eq_some_iff.1 hrj).1
            obtain ⟨oj, hoj⟩ : ∃ oj, ops[j]? = some oj := ⟨ops[j]'(by omega), by simp⟩
            obtain ⟨e, he, hb, hc⟩ := hanc j rj oj hrj hoj k hk
            have hon := hcl j oj hoj hj e he hb
            rcases hc with rfl | ⟨r', hr', hk'⟩
            · exact hon
            · exact ihj e.on (hord j oj hoj e he hb) hon r' hr' k hk'
        have hstep := draw_step (Q := Q) hrun hn hr (getD_both h1) (fun j hj => by
          obtain ⟨e, he, hb, hc⟩ := hanc i r o hr h2 j hj
          have hon := h3 e he hb
          rcases hc with rfl | ⟨r', hr', hk'⟩
          · exact hon
          · exact hclD e.on hon r' hr' j hk') (fun j rj hrj hd k hk => hclD j hd rj hrj k hk) hinv
        refine wpOp_mono (fun a' w' h' => ih (listed.setIfInBounds i true) a' w' (by simp [hsz]) (fun j oj hj hl e he hb => ?_) (fun j hj => ?_) ?_ (h'.congr fun k hk => ?_)) hstep
        · by_cases hij : i = j
          · subst hij
            rw [h2] at hj; cases hj
            exact getD_set_true (h3 e he hb)
          · rw [getD_set_ne false hij] at hl
            exact getD_set_true (hcl j oj hj hl e he hb)
        · rw [getD_set_ne false (by omega)]; exact hno j hj
        · have := len_filter_lt (p := fun j => !listed.getD j true) (q := fun j => !(listed.setIfInBounds i true).getD j true) (fun x hx => by
            by_cases e : i = x
            · subst e
              exfalso
              simp [hsz, hilt] at hx
            · rw [getD_set_ne true e] at hx; exact hx) (List.mem_range.2 hiL) (by rw [h1]; rfl) (by simp [hsz, hilt])
          omega
        · by_cases e : k = i
          · subst e
            simp [hsz, hilt]
          · simp only [if_neg e]
            rw [getD_set_ne false (Ne.symm e)]
end
def evTail (P : Program) (G : Nat → AV) (callB : CallB) (n : Nat) (ops : Array Oper) : List Nat → St → List CH → W (AEx × St × List CH)
  | [], s, hs => W.pure (.normal, s, hs)
  | i :: l, s, hs =>
    match Nat.ble n s.hp.nx with
    | true => (evStep P G callB ops i s hs).bind fun r => match r.1 with | .normal => evTail P G callB n ops l r.2.1 r.2.2 | _ => W.fail
    | false => W.fail
theorem evTail_sat {callB : CallB} (hcall : ∀ f args h hs, (callB f args h hs).sat fun r => CallDoes P G f args h r.1 r.2.1) {n : Nat} {ops : Array Oper} : ∀ (m k : Nat) (s : St) (hs : List CH),
    (evTail P G callB n ops (List.range' k m) s hs).sat fun r => r.1 = .normal ∧ ∃ S : Nat → St, S k = s ∧ S (k + m) = r.2.1 ∧ ∀ i, k ≤ i → i < k + m → StepDoes P G ops i (S i) .normal (S (i + 1)) ∧ n ≤ (S i).hp.nx
  | 0, k, s, hs => W.sat_pure ⟨rfl, fun _ => s, rfl, rfl, fun i h1 h2 => by omega⟩
  | m + 1, k, s, hs => by
    rw [List.range'_succ]
    unfold evTail
    split
    · rename_i hn
      refine W.sat_bind (evStep_sat hcall) fun r ⟨hd, _⟩ => ?_
      split
      · rename_i hr
        rw [hr] at hd
        refine W.sat_mono (evTail_sat hcall m (k + 1) r.2.1 r.2.2) fun q ⟨h1, S, h2, h3, h4⟩ => ⟨h1, fun i => if i = k then s else S i, by simp, ?_, fun i hi hm => ?_⟩
        · have : ¬ k + (m + 1) = k := by omega
          simp only [this, if_false]
          rw [← h3, show k + (m + 1) = k + 1 + m by omega]
        · by_cases e : i = k
          · subst e
            have : ¬ i + 1 = i := by omega
            simp only [this, if_true, if_false]
            rw [h2]
            exact ⟨hd, Nat.le_of_ble_eq_true hn⟩
          · have e2 : ¬ i + 1 = k := by omega
            simp only [e, e2, if_false]
            exact h4 i (by omega) (by omega)
      · exact W.sat_fail
    · exact W.sat_fail
def tailOf (ops : Array Oper) (hs : List CH) : Option Nat :=
  match hs with
  | [] => (List.range ops.size).find? fun k => tailB ops k
  | _ => none
def evDraw2 (P : Program) (G : Nat → AV) (callB : CallB) (n : Nat) (ops : Array Oper) (s : St) (hs : List CH) : W (AEx × St × List CH) :=
  match tailOf ops hs with
  | none => evDraw P G callB n ops s hs
  | some k =>
    match P.follows .mixedOrders, s.df, Nat.ble n s.hp.nx, ordB ops (List.range ops.size) with
    | true, [], true, true =>
      (runD P G callB ops (List.range' 0 k) [] s hs).bind fun q =>
        match indAll [] q.1 with
        | true => evTail P G callB n ops (List.range' k (ops.size - k)) (q.1.foldl (fun s r => appR r s) s) q.2
        | false => W.fail
    | _, _, _, _ => W.fail
theorem tailOf_spec {ops : Array Oper} {hs : List CH} {k : Nat} (h : tailOf ops hs = some k) : k < ops.size ∧ tailB ops k = true := by
  unfold tailOf at h
  split at h
  · exact ⟨List.mem_range.1 (List.mem_of_find?_eq_some h), List.find?_some h⟩
  · cases h
theorem evDraw2_sat {callB : CallB} (hcall : ∀ f args h hs, (callB f args h hs).sat fun r => CallDoes P G f args h r.1 r.2.1) {n id : Nat} {ops : Array Oper} {s : St} {hs : List CH} :
    (evDraw2 P G callB n ops s hs).sat fun r => Does P G n (.region id ops true) s r.1 r.2.1 := by
  unfold evDraw2
  split
  · exact evDraw_sat hcall
  rename_i k hk
  obtain ⟨hkN, htail⟩ := tailOf_spec hk
  split
  · rename_i hm hdf hn hord
    refine W.sat_bind (runD_sat hcall k 0 [] s hs) fun q ⟨hlen, hrec⟩ => ?_
    split
    · rename_i hind
      refine W.sat_mono (evTail_sat (n := n) hcall (ops.size - k) k _ _) fun r ⟨hr1, S, hSk, hSN, hS⟩ => ?_
      rw [hr1]
      intro μ0 ro0 a w hst
      have hrun : RunOk P G ops q.1 s := ⟨by omega, hdf, fun i r hr => by have := (hrec i r hr).1; rw [Nat.zero_add] at this; exact this,
        fun j i rj ri hj hrj hri ht => indAll_spec hind i ri hri j rj (by simp; exact hj) (by simpa using hrj) ht⟩
      have hCn : Cn q.1 s q.1.length = q.1.foldl (fun s r => appR r s) s := by unfold Cn; rw [List.take_length]
      have hstD : stD q.1 s (fun j => decide (j < q.1.length)) = q.1.foldl (fun s r => appR r s) s := by
        unfold stD
        rw [← Cn_stF, hCn]
      subst hlen
      have hN : q.1.length + (ops.size - q.1.length) = ops.size := by omega
      rw [hN] at hSN hS
      refine wp_region_any hm (draw_pre hrun (Nat.le_of_ble_eq_true hn) hkN htail (S := S) (μ0 := μ0) (ro0 := ro0) (w0 := w) (fun i r o hr ho j hj => ?_) (fun i o ho e he hb => ordB_spec hord i (List.mem_range.2 (Array.getElem?_eq_some_iff.1 ho).1) o ho e he hb)
        hS (hSk.trans hstD.symm) (fun a' w' μ ro hup hst' => ⟨μ, ro, hup, trivial, by rw [← hSN]; exact hst'⟩) ops.size _ a _ (by simp)
        (fun j oj hj hl => by rw [getD_replicate_false] at hl; cases hl) (fun j _ => getD_replicate_false _ _) ?_ ⟨μ0, ro0, ?_, ?_, ?_⟩)
      · obtain ⟨_, o', ho', ha⟩ := hrec i r hr
        rw [Nat.zero_add] at ho'
        rw [ho] at ho'; cases ho'
        rw [ha] at hj
        rcases ancE_spec _ _ _ hj with h | ⟨e, he, hb, h⟩
        · simp at h
        · refine ⟨e, by simpa using he, hb, ?_⟩
          rcases h with h | h
          · exact .inl h
          · right
            simp only [List.nil_append] at h
            rw [List.getD_eq_getElem?_getD, List.getElem?_map] at h
            cases hq : (q.1.take i)[e.on]? with
            | none => rw [hq] at h; simp at h
            | some r' =>
              rw [hq] at h
              refine ⟨r', ?_, by simpa using h⟩
              rw [List.getElem?_take] at hq
              split at hq
              · exact hq
              · cases hq
      · have := List.length_filter_le (fun j => !(Array.replicate ops.size false).getD j true) (List.range q.1.length)
        simp only [List.length_range] at this
        omega
      · exact ⟨.refl _ _, fun _ h => h, fun _ h => .inl h, ⟨rfl, rfl, rfl, Nat.le_refl _, fun _ _ => rfl, fun _ _ _ => rfl, fun i l h => .inl ⟨i, l, h, rfl⟩⟩⟩
      · have hmono := (hrun.mono (Nat.le_refl _)).2
        have : stF q.1 0 (fun j => (Array.replicate ops.size false).getD j false) s = s := stF_none fun k _ => getD_replicate_false _ _
        have hst' : StRel G μ0 ro0 { w with drawn := w.drawn + 1 } s a :=
          ⟨fun t v ht => (hst.tm t v ht).mono (fun _ _ h => h) (fun _ h => h) (fun _ _ => rfl), hst.nt, hst.hp.same (Nat.le_refl _) (fun _ _ => rfl) (fun _ _ _ _ _ => rfl), hst.gl.mono (fun _ _ h => h) (fun _ h => h) (fun _ _ => rfl), hst.df.mono (fun _ _ h => h) (fun _ h => h) (fun _ _ => rfl)⟩
        unfold stD
        rw [this]
        exact ⟨hst'.tm, hst'.nt, ⟨fun i k hi => (hst'.hp.obs i k hi).imp_right fun ⟨q1, q2, q3⟩ => ⟨q1, q2, Nat.lt_of_lt_of_le q3 hmono⟩, hst'.hp.inj, hst'.hp.own, hst'.hp.lt, hst'.hp.old, fun i hi => hst'.hp.nx i (Nat.le_trans hmono hi)⟩, hst'.gl, hst'.df⟩
      · intro j r hr _ x h1 _
        have := (hrun.rcs j r hr).lo
        have h2 := (hrun.mono (Nat.le_of_lt (List.getElem?_eq_some_iff.1 hr).1)).2
        exact hst.hp.nx x (by omega)
    · exact W.sat_fail
  · exact W.sat_fail
end Go.Proofs.YtnlaiahcemckkaaGreatDoor.Av
/- the last ops of a drawn region in every order, each order tried. -/
set_option linter.unusedVariables false
set_option linter.unusedSimpArgs false
namespace Go.Proofs.YtnlaiahcemckkaaGreatDoor.Av
open Go.RowKit
variable {P : Program} {G : Nat → AV} {μ μ' : Nat → Option Loc} {ro ro' : Nat → Prop} {w w' : World}
def allSame (g : Nat → W St) : List Nat → St → W Unit
  | [], _ => W.pure ()
  | i :: l, s1 => (g i).bind fun s2 => match eqSt s1 s2 with | true => allSame g l s1 | false => W.fail
theorem allSame_sat {g : Nat → W St} {Q : Nat → St → Prop} (hg : ∀ i, (g i).sat (Q i)) {s1 : St} : ∀ l : List Nat, (allSame g l s1).sat fun _ => ∀ i ∈ l, Q i s1
  | [] => W.sat_pure fun i hi => by cases hi
  | i :: l => by
    refine W.sat_bind (hg i) fun s2 h2 => ?_
    split
    · rename_i he
      have := eqSt_eq he
      subst this
      refine W.sat_mono (allSame_sat hg l) fun _ h => fun j hj => ?_
      rcases List.mem_cons.1 hj with rfl | hj
      · exact h2
      · exact h j hj
    · exact W.sat_fail
def evAll (P : Program) (G : Nat → AV) (callB : CallB) (n : Nat) (ops : Array Oper) : Nat → Array Bool → St → W St
  | 0, listed, s => match Region.ready .any ops listed with | [] => W.pure s | _ => W.fail
  | f + 1, listed, s =>
    match Region.ready .any ops listed with
    | [] => W.pure s
    | i :: l =>
      let g : Nat → W St := fun i => match Nat.ble n s.hp.nx with
        | true => (evStep P G callB ops i s []).bind fun r => match r.1 with | .normal => evAll P G callB n ops f (listed.setIfInBounds i true) r.2.1 | _ => W.fail
        | false => W.fail
      (g i).bind fun s1 => (allSame g l s1).bind fun _ => W.pure s1
def AllDoes (P : Program) (G : Nat → AV) (n : Nat) (ops : Array Oper) (f : Nat) (listed : Array Bool) (s s' : St) : Prop :=
  ∀ f', f ≤ f' → ∀ μ ro a w (Q : Exit → Act → World → Prop), StRel G μ ro w s a → (∀ μ' ro' a' w', Up n μ ro w μ' ro' w' → StRel G μ' ro' w' s' a' → Q .normal a' w') → wpAny P .any ops Q f' listed a w
theorem AllDoes.nil {n : Nat} {ops : Array Oper} {f : Nat} {listed : Array Bool} {s : St} (h : Region.ready .any ops listed = []) : AllDoes P G n ops f listed s s := fun f' _ μ ro a w Q hst hq => by
  have hQ := hq μ ro a w (.refl _ _ _ _) hst
  cases f' with
  | zero => exact ⟨h, hQ⟩
  | succ f' => exact ⟨fun _ => hQ, fun i hi => by rw [h] at hi; cases hi⟩
theorem evAll_sat {callB : CallB} (hcall : ∀ f args h hs, (callB f args h hs).sat fun r => CallDoes P G f args h r.1 r.2.1) {n : Nat} {ops : Array Oper} : ∀ (f : Nat) (listed : Array Bool) (s : St),
    (evAll P G callB n ops f listed s).sat fun s' => AllDoes P G n ops f listed s s'
  | 0, listed, s => by
    unfold evAll
    split
    · rename_i h; exact W.sat_pure (.nil h)
    · exact W.sat_fail
  | f + 1, listed, s => by
    unfold evAll
    split
    · rename_i h; exact W.sat_pure (.nil h)
    · rename_i i l h
      have hg : ∀ i, (match Nat.ble n s.hp.nx with
        | true => (evStep P G callB ops i s []).bind fun r => match r.1 with | .normal => evAll P G callB n ops f (listed.setIfInBounds i true) r.2.1 | _ => W.fail
        | false => W.fail : W St).sat fun s' => ∀ f', f ≤ f' → ∀ μ ro a w (Q : Exit → Act → World → Prop), StRel G μ ro w s a → (∀ μ' ro' a' w', Up n μ ro w μ' ro' w' → StRel G μ' ro' w' s' a' → Q .normal a' w') →
          wpOp P ops Q i (wpAny P .any ops Q f' (listed.setIfInBounds i true)) a w := fun i => by
        split
        · rename_i hn
          have hn' := Nat.le_of_ble_eq_true hn
          refine W.sat_bind (evStep_sat hcall) fun r ⟨hr, _⟩ => ?_
          split
          · rename_i he
            rw [he] at hr
            refine W.sat_mono (evAll_sat hcall f _ _) fun s' hs' f' hf μ ro a w Q hst hq => ?_
            exact hr μ ro a w Q _ hst fun μ' ro' a' w' hup hst' => ⟨fun _ _ => hs' f' hf μ' ro' a' w' Q hst' fun μ'' ro'' a'' w'' hup' hst'' => hq μ'' ro'' a'' w'' ((hup.mono hn').trans hup') hst'', fun v x hv => by cases hv⟩
          · exact W.sat_fail
        · exact W.sat_fail
      refine W.sat_bind (hg i) fun s1 h1 => W.sat_bind (allSame_sat hg l) fun _ h2 => W.sat_pure fun f' hf μ ro a w Q hst hq => ?_
      cases f' with
      | zero => omega
      | succ f' =>
        refine ⟨fun hr => (by rw [h] at hr; cases hr), fun j hj => ?_⟩
        rw [h] at hj
        rcases List.mem_cons.1 hj with rfl | hj
        · exact h1 f' (by omega) μ ro a w Q hst hq
        · exact h2 j hj f' (by omega) μ ro a w Q hst hq
section
variable {ops : Array Oper}
theorem draw_preC {L : List Rec} {s0 : St} {n : Nat} {Q : Exit → Act → World → Prop} {μ0 : Nat → Option Loc} {ro0 : Nat → Prop} {w0 : World} (hrun : RunOk P G ops L s0) (hn : n ≤ s0.hp.nx) (hkN : L.length < ops.size)
    (hanc : ∀ (i : Nat) (r : Rec) (o : Oper), L[i]? = some r → ops[i]? = some o → ∀ j, Nat.testBit r.anc j = true → ∃ e ∈ o.after, Region.binds .any e = true ∧ (j = e.on ∨ ∃ r', L[e.on]? = some r' ∧ Nat.testBit r'.anc j = true))
    (hord : ∀ (i : Nat) (o : Oper), ops[i]? = some o → ∀ e ∈ o.after, Region.binds .any e = true → e.on < i)
    (hpre : ∀ (i : Nat) (o : Oper), L.length ≤ i → ops[i]? = some o → (∃ e ∈ o.after, Region.binds .any e = true ∧ L.length ≤ e.on) ∨
      ∀ j, j < L.length → ∃ e ∈ o.after, Region.binds .any e = true ∧ (j = e.on ∨ ∃ r', L[e.on]? = some r' ∧ Nat.testBit r'.anc j = true))
    (htail : ∀ (listed : Array Bool) (a : Act) (w : World) (fuel : Nat), listed.size = ops.size → (∀ j, j < ops.size → listed.getD j false = decide (j < L.length)) → ops.size - L.length ≤ fuel →
      (∃ μ ro, Up n μ0 ro0 w0 μ ro w ∧ StRel G μ ro w (stD L s0 (fun j => decide (j < L.length))) a) → wpAny P .any ops Q fuel listed a w) :
    ∀ (fuel : Nat) (listed : Array Bool) (a : Act) (w : World), listed.size = ops.size →
      (∀ j oj, ops[j]? = some oj → listed.getD j false = true → ∀ e ∈ oj.after, Region.binds .any e = true → listed.getD e.on false = true) →
      (∀ j, L.length ≤ j → listed.getD j false = false) →
      ((List.range L.length).filter fun j => !listed.getD j true).length + (ops.size - L.length) ≤ fuel → Inv G n L s0 μ0 ro0 w0 (fun j => listed.getD j false) a w → wpAny P .any ops Q fuel listed a w := by
  intro fuel
  induction fuel with
  | zero => intro listed a w hsz hcl hno hcnt hinv; omega
  | succ fuel ih =>
    intro listed a w hsz hcl hno hcnt hinv
    have hclD : ∀ j, listed.getD j false = true → ∀ rj, L[j]? = some rj → ∀ k, Nat.testBit rj.anc k = true → listed.getD k false = true := by
      intro j
      induction j using Nat.strongRecOn with
      | _ j ihj =>
        intro hj rj hrj k hk
        have hjL := (List.getElem?_eq_some_iff.1 hrj).1
        obtain ⟨oj, hoj⟩ : ∃ oj, ops[j]? = some oj := ⟨ops[j]'(by omega), by simp⟩
        obtain ⟨e, he, hb, hc⟩ := hanc j rj oj hrj hoj k hk
        have hon := hcl j oj hoj hj e he hb
        rcases hc with rfl | ⟨r', hr', hk'⟩
        · exact hon
        · exact ihj e.on (hord j oj hoj e he hb) hon r' hr' k hk'
    by_cases hall : ∀ j, j < L.length → listed.getD j false = true
    · have hl : ∀ j, j < ops.size → listed.getD j false = decide (j < L.length) := fun j hj => by
        by_cases h : j < L.length
        · rw [hall j h]; simp [h]
        · rw [hno j (by omega)]; simp [h]
      obtain ⟨μ, ro, h1, h2, _⟩ := hinv.congr (D' := fun j => decide (j < L.length)) fun k hk => hl k (by omega)
      exact htail listed a w (fuel + 1) hsz hl (by omega) ⟨μ, ro, h1, h2⟩
    · have small : ∀ i ∈ Region.ready .any ops listed, i < L.length := by
        intro i hi
        obtain ⟨h1, o, h2, h3⟩ := mem_ready.1 hi
        have hilt := (Array.getElem?_eq_some_iff.1 h2).1
        by_cases h : i < L.length
        · exact h
        · exfalso
          rcases hpre i o (by omega) h2 with ⟨e, he, hb, hon⟩ | hp
          · have := h3 e he hb
            rw [hno e.on hon] at this; cases this
          · refine hall fun j hj => ?_
            obtain ⟨e, he, hb, hc⟩ := hp j hj
            have hon := h3 e he hb
            rcases hc with rfl | ⟨r', hr', hk'⟩
            · exact hon
            · exact hclD e.on hon r' hr' j hk'
      refine ⟨fun hr => ?_, fun i hi => ?_⟩
      · exfalso
        refine hall fun i => ?_
        induction i using Nat.strongRecOn with
        | _ i ihi =>
          intro hi
          cases hl : listed.getD i false with
          | true => rfl
          | false =>
            have hi2 : i < ops.size := by omega
            have : i ∈ Region.ready .any ops listed := mem_ready.2 ⟨getD_in (by omega) hl, ops[i], by simp [hi2], fun e he hb => ihi e.on (hord i ops[i] (by simp [hi2]) e he hb) (Nat.lt_trans (hord i ops[i] (by simp [hi2]) e he hb) hi)⟩
            rw [hr] at this; cases this
      · have hiL := small i hi
        obtain ⟨h1, o, h2, h3⟩ := mem_ready.1 hi
        have hilt := (Array.getElem?_eq_some_iff.1 h2).1
        obtain ⟨r, hr⟩ : ∃ r, L[i]? = some r := ⟨L[i], by simp⟩
        have hstep := draw_step (Q := Q) hrun hn hr (getD_both h1) (fun j hj => by
          obtain ⟨e, he, hb, hc⟩ := hanc i r o hr h2 j hj
          have hon := h3 e he hb
          rcases hc with rfl | ⟨r', hr', hk'⟩
          · exact hon
          · exact hclD e.on hon r' hr' j hk') (fun j rj hrj hd k hk => hclD j hd rj hrj k hk) hinv
        refine wpOp_mono (fun a' w' h' => ih (listed.setIfInBounds i true) a' w' (by simp [hsz]) (fun j oj hj hl e he hb => ?_) (fun j hj => ?_) ?_ (h'.congr fun k hk => ?_)) hstep
        · by_cases hij : i = j
          · subst hij
            rw [h2] at hj; cases hj
            exact getD_set_true (h3 e he hb)
          · rw [getD_set_ne false hij] at hl
            exact getD_set_true (hcl j oj hj hl e he hb)
        · rw [getD_set_ne false (by omega)]; exact hno j hj
        · have := len_filter_lt (p := fun j => !listed.getD j true) (q := fun j => !(listed.setIfInBounds i true).getD j true) (fun x hx => by
            by_cases e : i = x
            · subst e
              exfalso
              simp [hsz, hilt] at hx
            · rw [getD_set_ne true e] at hx; exact hx) (List.mem_range.2 hiL) (by rw [h1]; rfl) (by simp [hsz, hilt])
          omega
        · by_cases e : k = i
          · subst e
            simp [hsz, hilt]
          · simp only [if_neg e]
            rw [getD_set_ne false (Ne.symm e)]
end
/-- is every op from k on behind all ops ahead of k? -/
def tailC (ops : Array Oper) (ms : List Nat) (k : Nat) : Bool :=
  (List.range' k (ops.size - k)).all fun i => match ops[i]? with
    | some o => (o.after.toList.any fun e => Region.binds .any e && Nat.ble k e.on) || (List.range k).all fun j => Nat.testBit (ancE o.after.toList ms 0) j
    | none => true
/-- a region with an entry sought out: where its tail begins -/
def isEntry (o : Oper) : Bool := match o.op with | .mapEntry .. => true | _ => false
def isLook (o : Oper) : Bool := match o.op with | .lookup .. => true | _ => false
def entryAt (ops : Array Oper) : Option Nat :=
  match ops.toList.any isEntry with
  | true => (List.range ops.size).find? fun k => match ops[k]? with | some o => isLook o | none => false
  | false => none
def listedTo (N k : Nat) : Array Bool := ((List.range N).map fun j => Nat.blt j k).toArray
def evDraw3 (P : Program) (G : Nat → AV) (callB : CallB) (n : Nat) (ops : Array Oper) (s : St) (hs : List CH) : W (AEx × St × List CH) :=
  match hs, entryAt ops with
  | [], some k =>
    match P.follows .mixedOrders, s.df, Nat.ble n s.hp.nx, ordB ops (List.range ops.size) && Nat.blt k ops.size with
    | true, [], true, true =>
      (runD P G callB ops (List.range' 0 k) [] s []).bind fun q =>
        match indAll [] q.1 && tailC ops (q.1.map (·.anc)) k with
        | true => (evAll P G callB n ops (ops.size - k) (listedTo ops.size k) (q.1.foldl (fun s r => appR r s) s)).bind fun s' => W.pure (.normal, s', [])
        | false => W.fail
    | _, _, _, _ => W.fail
  | hs, _ => evDraw2 P G callB n ops s hs
theorem evDraw3_sat {callB : CallB} (hcall : ∀ f args h hs, (callB f args h hs).sat fun r => CallDoes P G f args h r.1 r.2.1) {n id : Nat} {ops : Array Oper} {s : St} {hs : List CH} :
    (evDraw3 P G callB n ops s hs).sat fun r => Does P G n (.region id ops true) s r.1 r.2.1 := by
  unfold evDraw3
  split
  · rename_i k hk
    split
    · rename_i hm hdf hn hord
      simp only [Bool.and_eq_true] at hord
      have hkN : k < ops.size := Nat.le_of_ble_eq_true hord.2
      obtain ⟨hordB, _⟩ := hord
      refine W.sat_bind (runD_sat hcall k 0 [] s []) fun q ⟨hlen, hrec⟩ => ?_
      split
      · rename_i hind
        simp only [Bool.and_eq_true] at hind
        obtain ⟨hind, htl⟩ := hind
        refine W.sat_bind (evAll_sat (n := n) hcall _ _ _) fun sf hsf => W.sat_pure ?_
        intro μ0 ro0 a w hst
        have hrun : RunOk P G ops q.1 s := ⟨by omega, hdf, fun i r hr => by have := (hrec i r hr).1; rw [Nat.zero_add] at this; exact this,
          fun j i rj ri hj hrj hri ht => indAll_spec hind i ri hri j rj (by simp; exact hj) (by simpa using hrj) ht⟩
        have hCn : Cn q.1 s q.1.length = q.1.foldl (fun s r => appR r s) s := by unfold Cn; rw [List.take_length]
        have hstD : stD q.1 s (fun j => decide (j < q.1.length)) = q.1.foldl (fun s r => appR r s) s := by
          unfold stD
          rw [← Cn_stF, hCn]
        subst hlen
        have hancOf : ∀ (es : List Edge) (j : Nat), Nat.testBit (ancE es (q.1.map (·.anc)) 0) j = true → ∃ e ∈ es, Region.binds .any e = true ∧ (j = e.on ∨ ∃ r', q.1[e.on]? = some r' ∧ Nat.testBit r'.anc j = true) := fun es j hj => by
          rcases ancE_spec _ _ _ hj with h | ⟨e, he, hb, h⟩
          · simp at h
          · refine ⟨e, he, hb, ?_⟩
            rcases h with h | h
            · exact .inl h
            · right
              rw [List.getD_eq_getElem?_getD, List.getElem?_map] at h
              cases hq : q.1[e.on]? with
              | none => rw [hq] at h; simp at h
              | some r' => rw [hq] at h; exact ⟨r', rfl, by simpa using h⟩
        refine wp_region_any hm (draw_preC hrun (Nat.le_of_ble_eq_true hn) hkN (μ0 := μ0) (ro0 := ro0) (w0 := w) (fun i r o hr ho j hj => ?_) (fun i o ho e he hb => ordB_spec hordB i (List.mem_range.2 (Array.getElem?_eq_some_iff.1 ho).1) o ho e he hb)
          (fun i o hi ho => ?_) (fun listed a' w' fuel hsz hl hf ⟨μ, ro, hup, hst'⟩ => ?_) ops.size _ a _ (by simp)
          (fun j oj hj hl => by rw [getD_replicate_false] at hl; cases hl) (fun j _ => getD_replicate_false _ _) ?_ ⟨μ0, ro0, ?_, ?_, ?_⟩)
        · obtain ⟨_, o', ho', ha⟩ := hrec i r hr
          rw [Nat.zero_add] at ho'
          rw [ho] at ho'; cases ho'
          rw [ha] at hj
          rcases ancE_spec _ _ _ hj with h | ⟨e, he, hb, h⟩
          · simp at h
          · refine ⟨e, by simpa using he, hb, ?_⟩
            rcases h with h | h
            · exact .inl h
            · right
              simp only [List.nil_append] at h
              rw [List.getD_eq_getElem?_getD, List.getElem?_map] at h
              cases hq : (q.1.take i)[e.on]? with
              | none => rw [hq] at h; simp at h
              | some r' =>
                rw [hq] at h
                refine ⟨r', ?_, by simpa using h⟩
                rw [List.getElem?_take] at hq
                split at hq
                · exact hq
                · cases hq
        · have hilt := (Array.getElem?_eq_some_iff.1 ho).1
          unfold tailC at htl
          rw [List.all_eq_true] at htl
          have := htl i (List.mem_range'_1.2 ⟨hi, by omega⟩)
          rw [ho] at this
          simp only [Bool.or_eq_true] at this
          rcases this with h | h
          · obtain ⟨e, he, hb⟩ := List.any_eq_true.1 h
            simp only [Bool.and_eq_true] at hb
            exact .inl ⟨e, by simpa using he, hb.1, Nat.le_of_ble_eq_true hb.2⟩
          · right
            intro j hj
            rw [List.all_eq_true] at h
            obtain ⟨e, he, h2⟩ := hancOf _ j (h j (List.mem_range.2 hj))
            exact ⟨e, by simpa using he, h2⟩
        · have hle : listed = listedTo ops.size q.1.length := by
            apply Array.ext
            · simp [listedTo, hsz]
            · intro i h1 h2
              have := hl i (by omega)
              rw [Array.getD_eq_getD_getElem?, Array.getElem?_eq_getElem h1, Option.getD_some] at this
              rw [this]
              simp only [listedTo, List.getElem_toArray, List.getElem_map, List.getElem_range]
              cases hb : Nat.blt i q.1.length with
              | true => have := Nat.le_of_ble_eq_true hb; simp; omega
              | false =>
                have : ¬ i < q.1.length := fun h => by rw [show Nat.blt i q.1.length = true from Nat.ble_eq_true_of_le h] at hb; cases hb
                simp [this]
          rw [hle]
          rw [hstD] at hst'
          exact hsf fuel hf μ ro a' w' _ hst' fun μ' ro' a'' w'' hup' hst'' => ⟨μ', ro', hup.trans hup', trivial, hst''⟩
        · have := List.length_filter_le (fun j => !(Array.replicate ops.size false).getD j true) (List.range q.1.length)
          simp only [List.length_range] at this
          omega
        · exact ⟨.refl _ _, fun _ h => h, fun _ h => .inl h, ⟨rfl, rfl, rfl, Nat.le_refl _, fun _ _ => rfl, fun _ _ _ => rfl, fun i l h => .inl ⟨i, l, h, rfl⟩⟩⟩
        · have hmono := (hrun.mono (Nat.le_refl _)).2
          have : stF q.1 0 (fun j => (Array.replicate ops.size false).getD j false) s = s := stF_none fun k _ => getD_replicate_false _ _
          have hst' : StRel G μ0 ro0 { w with drawn := w.drawn + 1 } s a :=
            ⟨fun t v ht => (hst.tm t v ht).mono (fun _ _ h => h) (fun _ h => h) (fun _ _ => rfl), hst.nt, hst.hp.same (Nat.le_refl _) (fun _ _ => rfl) (fun _ _ _ _ _ => rfl), hst.gl.mono (fun _ _ h => h) (fun _ h => h) (fun _ _ => rfl), hst.df.mono (fun _ _ h => h) (fun _ h => h) (fun _ _ => rfl)⟩
          unfold stD
          rw [this]
          exact ⟨hst'.tm, hst'.nt, ⟨fun i k hi => (hst'.hp.obs i k hi).imp_right fun ⟨q1, q2, q3⟩ => ⟨q1, q2, Nat.lt_of_lt_of_le q3 hmono⟩, hst'.hp.inj, hst'.hp.own, hst'.hp.lt, hst'.hp.old, fun i hi => hst'.hp.nx i (Nat.le_trans hmono hi)⟩, hst'.gl, hst'.df⟩
        · intro j r hr _ x h1 _
          have := (hrun.rcs j r hr).lo
          have h2 := (hrun.mono (Nat.le_of_lt (List.getElem?_eq_some_iff.1 hr).1)).2
          exact hst.hp.nx x (by omega)
      · exact W.sat_fail
    · exact W.sat_fail
  · exact evDraw2_sat hcall
end Go.Proofs.YtnlaiahcemckkaaGreatDoor.Av
