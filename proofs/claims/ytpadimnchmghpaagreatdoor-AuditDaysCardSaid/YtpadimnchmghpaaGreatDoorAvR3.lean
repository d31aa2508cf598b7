import Derived.Test.YtpadimnchmghpaaGreatDoorAvR2
import Derived.StillTail
open Prod (fst)
open Int (tdiv tmod)
set_option linter.unusedVariables false
set_option linter.unusedSimpArgs false
namespace Go.Proofs.YtpadimnchmghpaaGreatDoor.Av
open Go.RowKit
variable {P : Program} {G : Nat → AV} {μ μ' : Nat → Option Loc} {ro ro' : Nat → Prop} {w w' : World}
def stillOp : Op → Bool
 | .move _ | .assign _ | .pick _ _ _ | .build _ _ | .load _ _ | .nilCheck _ | .binOp _ _ _ _ _ | .unOp _ _ _ | .makeInterface _ _ | .makeFunc _ _ _ | .slice _ _ _ _ none
 | .fieldAddr _ _ _ | .field _ _ _ | .indexAddr _ _ _ | .index _ _ _ | .typeAssert _ _ _ _ | .extract _ _ | .lookup _ _ _ _ | .entry _ => true
 | _ => false
theorem evOp_still {hn : Hint} {ρ : Operand → AV} {o : Oper} {h : Hp} (hs : stillOp o.op = true) : (evOp P hn ρ o h).sat fun r => ∃ v, r = .val v h := by
 have triv : ∀ {α : Type} {m : W α}, m.sat fun _ => True := fun _ _ _ _ => trivial
 unfold evOp
 cases ho : o.op <;> rw [ho] at hs <;> simp only [stillOp] at hs <;> first
  | (cases hs; done)
  | exact W.sat_pure ⟨_, rfl⟩
  | exact W.sat_bind triv fun v _ => W.sat_pure ⟨_, rfl⟩
  | (rename_i m; cases m with
    | none => exact W.sat_bind triv fun v _ => W.sat_pure ⟨_, rfl⟩
    | some m => cases hs)
theorem put_hp {s : St} {dst : Option Tmp} {v : AV} : (s.put dst v).sat fun s' => s'.hp = s.hp := by
 unfold St.put
 split
 ·exact W.sat_pure rfl
 ·split
  ·exact W.sat_pure rfl
  ·exact W.sat_fail
theorem gdVal_hp {ops : Array Oper} {s : St} {o : Oper} {β : Option Bool} : (gdVal ops s o β).sat fun r => r.2.hp = s.hp := by
 unfold gdVal
 split
 ·exact W.sat_pure rfl
 ·split
  ·split
   ·split
    ·exact W.sat_bind (Q := fun _ => True) (fun _ _ _ _ => trivial) fun _ _ => W.sat_pure rfl
    ·exact W.sat_pure rfl
   ·exact W.sat_pure rfl
   ·exact W.sat_fail
  ·exact W.sat_fail
theorem evStep_still {callB : CallB} {ops : Array Oper} {i : Nat} {s : St} {hs : List CH} {o : Oper} (ho : ops[i]? = some o) (hst : stillOp o.op = true) :
  (evStep P G callB ops i s hs).sat fun r => r.2.1.hp = s.hp := by
 unfold evStep
 rw [ho]
 simp only
 refine W.sat_bind gdVal_hp fun g hg => ?_
 split
 ·exact W.sat_bind put_hp fun s1 h1 => W.sat_pure (h1.trans hg)
 ·refine W.sat_bind (evOp_still hst) fun r ⟨v, hr⟩ => ?_
  subst hr
  exact W.sat_bind put_hp fun s1 h1 => W.sat_pure (h1.trans hg)
/-! ### equality of what a state says, for what is looked at -/
def listEq {α : Type} (f : α → α → Bool) : List α → List α → Bool
 | [], [] => true
 | a :: l, b :: m => match f a b with | true => listEq f l m | false => false
 | _, _ => false
theorem listEq_eq {α : Type} {f : α → α → Bool} (hf : ∀ a b, f a b = true → a = b) : ∀ {l m : List α}, listEq f l m = true → l = m
 | [], [], _ => rfl
 | a :: l, b :: m, h => by
  simp only [listEq] at h
  split at h
  ·rename_i h1
   rw [hf a b h1, listEq_eq hf h]
  ·cases h
 | [], _ :: _, h => by cases h
 | _ :: _, [], h => by cases h
def avEq : Nat → AV → AV → Bool
 | 0, _, _ => false
 | k + 1, a, b =>
  match a, b with
  | .any, .any => true
  | .bool x, .bool y => x == y
  | .int p x, .int q y => decide (p = q) && decide (x = y)
  | .str x, .str y => decide (x = y)
  | .ptr i o, .ptr j p => Nat.beq i j && Nat.beq o p
  | .nilp, .nilp => true
  | .nils, .nils => true
  | .nilf, .nilf => true
  | .nili, .nili => true
  | .nilm, .nilm => true
  | .mapr i, .mapr j => Nat.beq i j
  | .sl i o l c e z, .sl i' o' l' c' e' z' => Nat.beq i i' && Nat.beq o o' && Nat.beq l l' && Nat.beq c c' && (e == e') && Nat.beq z z'
  | .vec i n z, .vec i' n' z' => Nat.beq i i' && Nat.beq n n' && Nat.beq z z'
  | .agg c, .agg d => listEq (avEq k) c d
  | .tup c, .tup d => listEq (avEq k) c d
  | .ifc s v, .ifc t u => Nat.beq s t && avEq k v u
  | _, _ => false
theorem avEq_eq : ∀ (k : Nat) (a b : AV), avEq k a b = true → a = b
 | 0, _, _, h => by cases h
 | k + 1, a, b, h => by
  unfold avEq at h
  split at h
  ·rfl
  ·simp at h; rw [h]
  ·simp only [Bool.and_eq_true, decide_eq_true_eq] at h; rw [h.1, h.2]
  ·simp only [decide_eq_true_eq] at h; rw [h]
  ·simp only [Bool.and_eq_true] at h; rw [Nat.eq_of_beq_eq_true h.1, Nat.eq_of_beq_eq_true h.2]
  ·rfl
  ·rfl
  ·rfl
  ·rfl
  ·rfl
  ·rw [Nat.eq_of_beq_eq_true h]
  ·simp only [Bool.and_eq_true, beq_iff_eq] at h
   obtain ⟨⟨⟨⟨⟨h1, h2⟩, h3⟩, h4⟩, h5⟩, h6⟩ := h
   rw [Nat.eq_of_beq_eq_true h1, Nat.eq_of_beq_eq_true h2, Nat.eq_of_beq_eq_true h3, Nat.eq_of_beq_eq_true h4, h5, Nat.eq_of_beq_eq_true h6]
  ·simp only [Bool.and_eq_true] at h
   rw [Nat.eq_of_beq_eq_true h.1.1, Nat.eq_of_beq_eq_true h.1.2, Nat.eq_of_beq_eq_true h.2]
  ·rw [listEq_eq (avEq_eq k) h]
  ·rw [listEq_eq (avEq_eq k) h]
  ·simp only [Bool.and_eq_true] at h
   rw [Nat.eq_of_beq_eq_true h.1, avEq_eq k _ _ h.2]
  ·cases h
def obEq : Option Ob → Option Ob → Bool
 | none, none => true
 | some (.blk a), some (.blk b) => listEq (avEq 8) a.c b.c && Nat.beq a.e b.e && (a.ext == b.ext) && Nat.beq a.fz b.fz && (a.pl == b.pl) && (a.o == b.o) && a.it.isNone && b.it.isNone
 | _, _ => false
theorem obEq_eq {a b : Option Ob} (h : obEq a b = true) : a = b := by
 unfold obEq at h
 split at h
 ·rfl
 ·rename_i a b
  obtain ⟨c, e, x, f, p, o, it⟩ := a
  obtain ⟨c', e', x', f', p', o', it'⟩ := b
  simp only [Bool.and_eq_true, beq_iff_eq, Option.isNone_iff_eq_none] at h
  obtain ⟨⟨⟨⟨⟨⟨⟨h1, h2⟩, h3⟩, h4⟩, h5⟩, h6⟩, h7⟩, h8⟩ := h
  subst h7 h8
  rw [listEq_eq (avEq_eq 8) h1, Nat.eq_of_beq_eq_true h2, h3, Nat.eq_of_beq_eq_true h4, h5, h6]
 ·cases h
def eqOn (a b : Tr Ob) : List Nat → Prop
 | [] => True
 | x :: l => a.get x = b.get x ∧ eqOn a b l
theorem eqOn_get {a b : Tr Ob} {x : Nat} : ∀ {l : List Nat}, eqOn a b l → x ∈ l → a.get x = b.get x
 | [], _, h => by cases h
 | y :: l, ⟨h1, h2⟩, h => by
  rcases List.mem_cons.1 h with rfl | h
  ·exact h1
  ·exact eqOn_get h2 h
def oweEq (st : Bool) (a b : Tr Ob) (l : List Nat) : W Unit :=
 match st with
 | true => W.pure ()
 | false => match l with | [] => W.pure () | l => W.owe (eqOn a b l)
def noOwe (told : Option (List Nat)) (op : Op) (sy tr : Bool) : Bool := match tr, told with | true, _ => false | _, some _ => false | _, none => stillOp op || !sy
def wrIn (op : Op) (told : Option (List Nat)) (sy : Bool) (a b : Tr Ob) (fp : List Nat) : List Nat :=
 match told with
 | some l => l
 | none =>
  match stillOp op with
  | true => []
  | false =>
   match sy with
   | false => fp.filter fun x => !obEq (a.get x) (b.get x)
   | true => match op with | .store _ _ _ => fp | _ => fp.filter fun x => (a.get x).isNone
def ancE : List Edge → List Nat → Nat → Nat
 | [], _, acc => acc
 | e :: es, ms, acc => match Region.binds .any e with | true => ancE es ms (acc ||| (1 <<< e.on) ||| ms.getD e.on 0) | false => ancE es ms acc
theorem ancE_spec {j : Nat} : ∀ (es : List Edge) (ms : List Nat) (acc : Nat), Nat.testBit (ancE es ms acc) j = true →
  Nat.testBit acc j = true ∨ ∃ e ∈ es, Region.binds .any e = true ∧ (j = e.on ∨ Nat.testBit (ms.getD e.on 0) j = true)
 | [], ms, acc, h => .inl h
 | e :: es, ms, acc, h => by
  simp only [ancE] at h
  split at h
  ·rename_i hb
   rcases ancE_spec es ms _ h with h1 | ⟨e', h1, h2, h3⟩
   ·simp only [Nat.testBit_or, Bool.or_eq_true] at h1
    rcases h1 with (h1 | h1) | h1
    ·exact .inl h1
    ·rw [Nat.one_shiftLeft, Nat.testBit_two_pow] at h1
     exact .inr ⟨e, by simp, hb, .inl (of_decide_eq_true h1).symm⟩
    ·exact .inr ⟨e, by simp, hb, .inr h1⟩
   ·exact .inr ⟨e', List.mem_cons_of_mem _ h1, h2, h3⟩
  ·rcases ancE_spec es ms _ h with h1 | ⟨e', h1, h2, h3⟩
   ·exact .inl h1
   ·exact .inr ⟨e', List.mem_cons_of_mem _ h1, h2, h3⟩
def fpOf (C : St) (lk : List Nat) : List Nat := reach C.hp.m 4000 (lk.flatMap fun t => match C.tm.get t with | some v => idsN 6 v | none => []) []
def fin (P : Program) (o : Oper) (lk fp : List Nat) (told : Option (List Nat)) (sy tr : Bool) (anc : Nat) (C : St) (r : AEx × St × List CH) : W (Rec × List CH) :=
 match r.1, r.2.1.df with
 | .normal, [] =>
  match Nat.ble C.hp.nx r.2.1.hp.nx, (wrIn o.op told sy r.2.1.hp.m C.hp.m fp).all (fun x => memN x fp), (match o.dst with | none => some AV.any | some d => r.2.1.tm.get d) with
  | true, true, some v =>
   (oweEq (noOwe told o.op sy tr) r.2.1.hp.m C.hp.m (fp.filter fun x => !memN x (wrIn o.op told sy r.2.1.hp.m C.hp.m fp))).bind fun _ =>
    W.pure (⟨o.dst, lk, v, C.hp.nx, r.2.1.hp.nx, fp, wrIn o.op told sy r.2.1.hp.m C.hp.m fp, obL r.2.1.hp.m (wrIn o.op told sy r.2.1.hp.m C.hp.m fp ++ List.range' C.hp.nx (r.2.1.hp.nx - C.hp.nx)), anc⟩, r.2.2)
  | _, _, _ => W.fail
 | _, _ => W.fail
def recOf2 (P : Program) (G : Nat → AV) (callB : CallB) (ops : Array Oper) (o : Oper) (lk fp : List Nat) (anc : Nat) (C : St) (i : Nat) (hs : List CH) : W (Rec × List CH) :=
 match okT C.tm fp lk, okH C.hp.m C.hp.nx fp with
 | true, true =>
  match hs with
  | .draw wr :: hs' => (evStepT P G callB ops i ⟨restT C.tm lk, C.nt, ⟨restT C.hp.m fp, C.hp.nx⟩, []⟩ hs').bind fun r => fin P o lk fp (some wr.flatten) true r.2 anc C r.1
  | [] => (evStepT P G callB ops i ⟨restT C.tm lk, C.nt, ⟨restT C.hp.m fp, C.hp.nx⟩, []⟩ []).bind fun r => fin P o lk fp none false r.2 anc C r.1
  | hs => (evStepT P G callB ops i ⟨restT C.tm lk, C.nt, ⟨restT C.hp.m fp, C.hp.nx⟩, []⟩ hs).bind fun r => fin P o lk fp none true r.2 anc C r.1
 | _, _ => W.fail
def mvOf (ops : Array Oper) (o : Oper) (C : St) (hs : List CH) : Option (Nat × AV) :=
 match o.guard, o.op, o.dst, hs with
 | none, .move (.tmp t), some d, .op none .c :: _ => match memN t (o.looksAt ops), C.tm.get t, Nat.blt d C.nt with | true, some v, true => some (d, v) | _, _, _ => none
 | _, _, _, _ => none
def recOf (P : Program) (G : Nat → AV) (callB : CallB) (ops : Array Oper) (ms : List Nat) (C : St) (i : Nat) (hs : List CH) : W (Rec × List CH) :=
 match ops[i]? with
 | none => W.fail
 | some o =>
  match mvOf ops o C hs with
  | some (d, v) => W.pure (⟨some d, o.looksAt ops, v, C.hp.nx, C.hp.nx, [], [], [], ancE o.after.toList ms 0⟩, hs.tail)
  | none => recOf2 P G callB ops o (o.looksAt ops) (fpOf C (o.looksAt ops)) (ancE o.after.toList ms 0) C i hs
theorem mvOf_spec {ops : Array Oper} {o : Oper} {C : St} {hs : List CH} {d : Nat} {v : AV} (h : mvOf ops o C hs = some (d, v)) :
  ∃ t, o.guard = none ∧ o.op = .move (.tmp t) ∧ o.dst = some d ∧ memN t (o.looksAt ops) = true ∧ C.tm.get t = some v ∧ d < C.nt := by
 unfold mvOf at h
 split at h
 ·rename_i t d' hs' h1 h2 h3
  split at h
  ·rename_i v' q1 q2 q3
   simp only [sJ, Prod.mk.injEq] at h
   obtain ⟨rfl, rfl⟩ := h
   exact ⟨t, h1, h2, h3, q1, q2, nB q3⟩
  ·cases h
 ·cases h
theorem recOf_sat {callB : CallB} (hcall : ∀ f args h hs, (callB f args h hs).sat fun r => CallDoes P G f args h r.1 r.2.1) {ops : Array Oper} {ms : List Nat} {C : St} {i : Nat} {hs : List CH} :
  (recOf P G callB ops ms C i hs).sat fun r => RecK P G ops C i r.1 ∧ ∃ o, ops[i]? = some o ∧ r.1.anc = ancE o.after.toList ms 0 := by
 unfold recOf
 split
 ·exact W.sat_fail
 ·rename_i o ho
  split
  ·rename_i d v hmv
   obtain ⟨t, h1, h2, h3, h4, h5, h6⟩ := mvOf_spec hmv
   exact W.sat_pure ⟨.inr ⟨⟨o, t, d, ho, h1, h2, h3, rfl, h4, h5, h6⟩, rfl, rfl, rfl, rfl, rfl⟩, o, ho, rfl⟩
  unfold recOf2
  split
  ·rename_i hT hH
   have key : ∀ (told : Option (List Nat)) (sy : Bool) (hs : List CH), ((evStepT P G callB ops i ⟨restT C.tm (o.looksAt ops), C.nt, ⟨restT C.hp.m (fpOf C (o.looksAt ops)), C.hp.nx⟩, []⟩ hs).bind fun r => fin P o (o.looksAt ops) (fpOf C (o.looksAt ops)) told sy r.2 (ancE o.after.toList ms 0) C r.1).sat
     fun r => RecK P G ops C i r.1 ∧ ∃ o, ops[i]? = some o ∧ r.1.anc = ancE o.after.toList ms 0 := fun told sy hs => by
    have hstill : (evStepT P G callB ops i ⟨restT C.tm (o.looksAt ops), C.nt, ⟨restT C.hp.m (fpOf C (o.looksAt ops)), C.hp.nx⟩, []⟩ hs).sat fun r => r.2 = false → stillOp o.op = true → r.1.2.1.hp = ⟨restT C.hp.m (fpOf C (o.looksAt ops)), C.hp.nx⟩ := by
     cases hst : stillOp o.op with
     | false => intro _ _ _ _ _ h; cases h
     | true =>
      unfold evStepT
      cases ht : isTr hs with
      | true =>
       refine W.sat_bind (Q := fun _ => True) (fun _ _ _ _ => trivial) fun q _ => ?_
       split
       ·refine W.sat_bind (Q := fun _ => True) (fun _ _ _ _ => trivial) fun r _ => ?_
        split
        ·exact W.sat_bind (Q := fun _ => True) (fun _ _ _ _ => trivial) fun z _ => W.sat_pure fun h => by simp at h
        ·exact W.sat_pure fun h => by simp at h
       ·exact W.sat_fail
      | false =>
       rw [evTrs_none ht]
       refine W.sat_bind (W.sat_pure (Q := fun q => q = (_, hs)) rfl) fun q hq => ?_
       subst hq
       split
       ·refine W.sat_bind (evStep_still ho hst) fun r hr => ?_
        split
        ·cases ht2 : isTr r.2.2 with
         | true => exact W.sat_bind (Q := fun _ => True) (fun _ _ _ _ => trivial) fun z _ => W.sat_pure fun h => by simp at h
         | false =>
          rw [evTps_none ht2]
          exact W.sat_bind (W.sat_pure (Q := fun q => q.1 = r.2.1) rfl) fun z hz => W.sat_pure fun _ _ => by simp only [hz]; exact hr
        ·exact W.sat_pure fun h => by simp at h
       ·exact W.sat_fail
    have both : (evStepT P G callB ops i ⟨restT C.tm (o.looksAt ops), C.nt, ⟨restT C.hp.m (fpOf C (o.looksAt ops)), C.hp.nx⟩, []⟩ hs).sat fun r => StepDoes P G ops i ⟨restT C.tm (o.looksAt ops), C.nt, ⟨restT C.hp.m (fpOf C (o.looksAt ops)), C.hp.nx⟩, []⟩ r.1.1 r.1.2.1 ∧ (r.2 = false → stillOp o.op = true → r.1.2.1.hp = ⟨restT C.hp.m (fpOf C (o.looksAt ops)), C.hp.nx⟩) :=
     fun r ps he hok => ⟨evStepT_sat hcall r ps he hok, hstill r ps he hok⟩
    refine W.sat_bind both fun r ⟨hr, hst⟩ => ?_
    obtain ⟨⟨e, s1, hs1⟩, tr⟩ := r
    unfold fin
    split
    ·rename_i e1 e2
     simp only at e1 e2 hr hst
     subst e1
     split
     ·rename_i v hb hw hv
      simp only at hb hv hw
      generalize hwr : wrIn o.op told sy s1.hp.m C.hp.m (fpOf C (o.looksAt ops)) = wr at hw ⊢
      have heq : (oweEq (noOwe told o.op sy tr) s1.hp.m C.hp.m ((fpOf C (o.looksAt ops)).filter fun x => !memN x wr)).sat fun _ => ∀ x, memN x (fpOf C (o.looksAt ops)) = true → memN x wr = false → s1.hp.m.get x = C.hp.m.get x := by
       have owe : (oweEq false s1.hp.m C.hp.m ((fpOf C (o.looksAt ops)).filter fun x => !memN x wr)).sat fun _ => ∀ x, memN x (fpOf C (o.looksAt ops)) = true → memN x wr = false → s1.hp.m.get x = C.hp.m.get x := by
        unfold oweEq
        simp only
        split
        ·rename_i hnil
         refine W.sat_pure fun x hx hw' => ?_
         have : x ∈ ((fpOf C (o.looksAt ops)).filter fun x => !memN x wr) := List.mem_filter.2 ⟨memN_iff.1 hx, by simp [hw']⟩
         rw [hnil] at this; cases this
        ·exact W.sat_mono W.sat_owe fun _ h x hx hw' => eqOn_get h (List.mem_filter.2 ⟨memN_iff.1 hx, by simp [hw']⟩)
       cases tr with
       | true => exact owe
       | false =>
       cases told with
       | some l => exact owe
       | none =>
        cases hso : stillOp o.op with
        | true =>
         simp only [noOwe, hso, Bool.true_or]
         refine W.sat_pure fun x hx _ => ?_
         rw [hst rfl hso]
         simp only [restT_get, if_pos hx]
        | false =>
         cases sy with
         | true => simp only [noOwe, hso, Bool.false_or, Bool.not_true]; exact owe
         | false =>
          simp only [noOwe, hso, Bool.false_or, Bool.not_false]
          refine W.sat_pure fun x hx hw' => ?_
          cases he : obEq (s1.hp.m.get x) (C.hp.m.get x) with
          | true => exact obEq_eq he
          | false =>
           have : x ∈ wr := by
            rw [← hwr]
            simp only [wrIn, hso]
            exact List.mem_filter.2 ⟨memN_iff.1 hx, by rw [he]; rfl⟩
           rw [memN_iff.2 this] at hw'; cases hw'
      refine W.sat_bind heq fun _ hkeep => W.sat_pure ⟨.inl ⟨⟨o, ho, rfl⟩, rfl, nB hb, hT, hH, fun x hx => ?_, s1, hr, e2, rfl, fun d hd => ?_, hkeep, fun x => ?_⟩, o, ho, rfl⟩
      ·rw [List.all_eq_true] at hw
       exact hw x (memN_iff.1 hx)
      ·simp only at hd
       rw [hd] at hv
       exact hv
      ·rw [obL_look]
       have hiff : memN x (wr ++ List.range' C.hp.nx (s1.hp.nx - C.hp.nx)) = true ↔ memN x wr = true ∨ (C.hp.nx ≤ x ∧ x < s1.hp.nx) := by
        rw [memN_iff, List.mem_append, memN_iff, List.mem_range'_1]
        have := nB hb
        constructor <;> rintro (h | h)
        ·exact .inl h
        ·exact .inr ⟨h.1, by omega⟩
        ·exact .inl h
        ·exact .inr ⟨h.1, by omega⟩
       by_cases hc : memN x (wr ++ List.range' C.hp.nx (s1.hp.nx - C.hp.nx)) = true
       ·rw [if_pos hc, if_pos (hiff.1 hc)]
       ·rw [if_neg hc, if_neg (fun h => hc (hiff.2 h))]
     ·exact W.sat_fail
    ·exact W.sat_fail
   split
   ·exact key _ _ _
   ·exact key _ _ _
   ·exact key _ _ _
  ·exact W.sat_fail
def runD (P : Program) (G : Nat → AV) (callB : CallB) (ops : Array Oper) : List Nat → List Nat → St → List CH → W (List Rec × List CH)
 | [], ms, C, hs => W.pure ([], hs)
 | i :: l, ms, C, hs => (recOf P G callB ops ms C i hs).bind fun r => (runD P G callB ops l (ms ++ [r.1.anc]) (appR r.1 C) r.2).bind fun q => W.pure (r.1 :: q.1, q.2)
theorem runD_sat {callB : CallB} (hcall : ∀ f args h hs, (callB f args h hs).sat fun r => CallDoes P G f args h r.1 r.2.1) {ops : Array Oper} : ∀ (k i : Nat) (ms : List Nat) (C : St) (hs : List CH),
  (runD P G callB ops (List.range' i k) ms C hs).sat fun q => q.1.length = k ∧ ∀ m r, q.1[m]? = some r → RecK P G ops (Cn q.1 C m) (i + m) r ∧ ∃ o, ops[i + m]? = some o ∧ r.anc = ancE o.after.toList (ms ++ (q.1.take m).map Rec.anc) 0
 | 0, i, ms, C, hs => W.sat_pure ⟨rfl, fun m r h => by simp at h⟩
 | k + 1, i, ms, C, hs => by
  simp only [List.range'_succ, runD]
  refine W.sat_bind (recOf_sat hcall) fun r ⟨h1, h2⟩ => W.sat_bind (runD_sat hcall k (i + 1) _ _ _) fun q ⟨h3, h4⟩ => W.sat_pure ⟨by simp [h3], fun m r' hm => ?_⟩
  cases m with
  | zero =>
   simp only [List.getElem?_cons_zero, sJ] at hm
   subst hm
   exact ⟨h1, by simpa using h2⟩
  | succ m =>
   simp only [List.getElem?_cons_succ] at hm
   have := h4 m r' hm
   rw [show i + (m + 1) = i + 1 + m by omega]
   refine ⟨this.1, ?_⟩
   simpa [List.append_assoc] using this.2
def indBefore (ri : Rec) : List Rec → Nat → Bool
 | [], _ => true
 | rj :: l, j => match Nat.testBit ri.anc j with | true => indBefore ri l (j + 1) | false => match indep rj ri with | true => indBefore ri l (j + 1) | false => false
def indAll : List Rec → List Rec → Bool
 | _, [] => true
 | pre, r :: l => match indBefore r pre 0 with | true => indAll (pre ++ [r]) l | false => false
theorem indBefore_spec {ri : Rec} : ∀ {l : List Rec} {a : Nat}, indBefore ri l a = true → ∀ j rj, l[j]? = some rj → Nat.testBit ri.anc (a + j) = false → indep rj ri = true
 | [], a, _, j, rj, h, _ => by simp at h
 | r :: l, a, hb, j, rj, h, ht => by
  simp only [indBefore] at hb
  have hrest : indBefore ri l (a + 1) = true := by
   split at hb
   ·exact hb
   ·split at hb
    ·exact hb
    ·cases hb
  cases j with
  | zero =>
   simp only [List.getElem?_cons_zero, sJ] at h
   subst h
   simp only [Nat.add_zero] at ht
   rw [ht] at hb
   simp only at hb
   split at hb
   ·assumption
   ·cases hb
  | succ j =>
   simp only [List.getElem?_cons_succ] at h
   exact indBefore_spec hrest j rj h (by rw [show a + 1 + j = a + (j + 1) by omega]; exact ht)
theorem indAll_spec : ∀ {l pre : List Rec}, indAll pre l = true → ∀ i ri, l[i]? = some ri → ∀ j rj, j < pre.length + i → (pre ++ l)[j]? = some rj → Nat.testBit ri.anc j = false → indep rj ri = true
 | [], pre, _, i, ri, h, _, _, _, _, _ => by simp at h
 | r :: l, pre, hb, i, ri, h, j, rj, hj, hrj, ht => by
  simp only [indAll] at hb
  split at hb
  ·rename_i hb1
   cases i with
   | zero =>
    simp only [List.getElem?_cons_zero, sJ] at h
    subst h
    refine indBefore_spec hb1 j rj ?_ (by rw [Nat.zero_add]; exact ht)
    rw [List.getElem?_append_left (by omega)] at hrj
    exact hrj
   | succ i =>
    simp only [List.getElem?_cons_succ] at h
    refine indAll_spec hb i ri h j rj (by simp; omega) ?_ ht
    rw [List.append_assoc]; exact hrj
  ·cases hb
def ordB (ops : Array Oper) : List Nat → Bool
 | [] => true
 | i :: l => match ops[i]? with | some o => (o.after.toList.all fun e => match Region.binds .any e with | true => Nat.blt e.on i | false => true) && ordB ops l | none => false
theorem ordB_spec {ops : Array Oper} : ∀ {l : List Nat}, ordB ops l = true → ∀ i ∈ l, ∀ o, ops[i]? = some o → ∀ e ∈ o.after, Region.binds .any e = true → e.on < i
 | [], _, i, h, _, _, _, _, _ => by cases h
 | k :: l, hb, i, h, o, ho, e, he, hbd => by
  simp only [ordB] at hb
  split at hb
  ·rename_i o' ho'
   simp only [Bool.and_eq_true] at hb
   rcases List.mem_cons.1 h with rfl | h
   ·rw [ho] at ho'; cases ho'
    have := hb.1
    rw [List.all_eq_true] at this
    have := this e (by simpa using he)
    rw [hbd] at this
    exact nB this
   ·exact ordB_spec hb.2 i h o ho e he hbd
  ·cases hb
def evDraw (P : Program) (G : Nat → AV) (callB : CallB) (n : Nat) (ops : Array Oper) (s : St) (hs : List CH) : W (AEx × St × List CH) :=
 match P.follows .mixedOrders, s.df, Nat.ble n s.hp.nx, ordB ops (List.range ops.size) with
 | true, [], true, true =>
  (runD P G callB ops (List.range' 0 ops.size) [] s hs).bind fun q =>
   match indAll [] q.1 with
   | true => W.pure (.normal, q.1.foldl (fun s r => appR r s) s, q.2)
   | false => W.fail
 | _, _, _, _ => W.fail
theorem len_filter_lt {p q : Nat → Bool} (h : ∀ x, q x = true → p x = true) {i : Nat} : ∀ {l : List Nat}, i ∈ l → p i = true → q i = false → (l.filter q).length < (l.filter p).length
 | [], h1, _, _ => by cases h1
 | x :: l, h1, hp, hq => by
  have le : ∀ l : List Nat, (l.filter q).length ≤ (l.filter p).length := fun l => by
   induction l with
   | nil => simp
   | cons y l ih =>
    simp only [List.filter_cons]
    cases hqy : q y with
    | true => rw [if_pos rfl, if_pos (h y hqy)]; simp; exact ih
    | false => cases hpy : p y <;> simp <;> omega
  simp only [List.filter_cons]
  rcases List.mem_cons.1 h1 with rfl | h1
  ·rw [hp, hq]
   have := le l
   simp; omega
  ·have ih := len_filter_lt h h1 hp hq
   cases hqx : q x with
   | true => rw [if_pos rfl, if_pos (h x hqx)]; simp; exact ih
   | false => cases hpx : p x <;> simp <;> omega
theorem stF_eq : ∀ {l : List Rec} {i : Nat} {D D' : Nat → Bool} {s : St}, (∀ k, k < l.length → D (i + k) = D' (i + k)) → stF l i D s = stF l i D' s
 | [], _, _, _, _, _ => rfl
 | r :: l, i, D, D', s, h => by
  have h0 := h 0 (by simp)
  simp only [Nat.add_zero] at h0
  simp only [stF, h0]
  exact stF_eq fun k hk => by
   have := h (k + 1) (by simp; omega)
   rw [show i + 1 + k = i + (k + 1) by omega]; exact this
section
variable {ops : Array Oper} {L : List Rec} {s0 : St}
theorem Inv.congr {n : Nat} {μ0 : Nat → Option Loc} {ro0 : Nat → Prop} {w0 : World} {D D' : Nat → Bool} {a : Act} {w : World} (h : Inv G n L s0 μ0 ro0 w0 D a w) (hD : ∀ k, k < L.length → D k = D' k) : Inv G n L s0 μ0 ro0 w0 D' a w := by
 obtain ⟨μ, ro, h1, h2, h3⟩ := h
 refine ⟨μ, ro, h1, ?_, fun j r hr hd => h3 j r hr (by rw [hD j (List.getElem?_eq_some_iff.1 hr).1]; exact hd)⟩
 have : stD L s0 D' = stD L s0 D := by
  unfold stD
  rw [stF_eq (D := D') (D' := D) fun k hk => by rw [Nat.zero_add]; exact (hD k hk).symm]
 rw [this]; exact h2
theorem draw_any {n : Nat} {Q : Exit → Act → World → Prop} {μ0 : Nat → Option Loc} {ro0 : Nat → Prop} {w0 : World} (hrun : RunOk P G ops L s0) (hn : n ≤ s0.hp.nx)
  (hanc : ∀ (i : Nat) (r : Rec) (o : Oper), L[i]? = some r → ops[i]? = some o → ∀ j, Nat.testBit r.anc j = true → ∃ e ∈ o.after, Region.binds .any e = true ∧ (j = e.on ∨ ∃ r', L[e.on]? = some r' ∧ Nat.testBit r'.anc j = true))
  (hord : ∀ (i : Nat) (o : Oper), ops[i]? = some o → ∀ e ∈ o.after, Region.binds .any e = true → e.on < i)
  (hQ : ∀ a w, Inv G n L s0 μ0 ro0 w0 (fun j => decide (j < L.length)) a w → Q .normal a w) :
  ∀ (fuel : Nat) (listed : Array Bool) (a : Act) (w : World), listed.size = ops.size →
   (∀ j oj, ops[j]? = some oj → listed.getD j false = true → ∀ e ∈ oj.after, Region.binds .any e = true → listed.getD e.on false = true) →
   ((List.range ops.size).filter fun j => !listed.getD j true).length ≤ fuel → Inv G n L s0 μ0 ro0 w0 (fun j => listed.getD j false) a w → wpAny P .any ops Q fuel listed a w := by
 have done : ∀ (listed : Array Bool) (a : Act) (w : World), listed.size = ops.size → Region.ready .any ops listed = [] → Inv G n L s0 μ0 ro0 w0 (fun j => listed.getD j false) a w → Q .normal a w := by
  intro listed a w hsz hr hinv
  have all : ∀ i, i < ops.size → listed.getD i false = true := by
   intro i
   induction i using Nat.strongRecOn with
   | _ i ih =>
    intro hi
    cases hl : listed.getD i false with
    | true => rfl
    | false =>
     have : i ∈ Region.ready .any ops listed := mem_ready.2 ⟨getD_in (by omega) hl, ops[i], by simp [hi], fun e he hb => ih e.on (hord i ops[i] (by simp [hi]) e he hb) (Nat.lt_trans (hord i ops[i] (by simp [hi]) e he hb) hi)⟩
     rw [hr] at this; cases this
  exact hQ a w (hinv.congr fun k hk => by rw [all k (by rw [← hrun.len]; exact hk)]; simp [hk])
 intro fuel
 induction fuel with
 | zero =>
  intro listed a w hsz hcl hcnt hinv
  have hr : Region.ready .any ops listed = [] := by
   apply List.eq_nil_iff_forall_not_mem.2
   intro i hi
   obtain ⟨h1, o, h2, _⟩ := mem_ready.1 hi
   have : i ∈ (List.range ops.size).filter fun j => !listed.getD j true := List.mem_filter.2 ⟨List.mem_range.2 (Array.getElem?_eq_some_iff.1 h2).1, by rw [h1]; rfl⟩
   have h0 := List.length_eq_zero_iff.1 (Nat.le_zero.1 hcnt)
   rw [h0] at this; cases this
  exact ⟨hr, done listed a w hsz hr hinv⟩
 | succ fuel ih =>
  intro listed a w hsz hcl hcnt hinv
  refine ⟨fun hr => done listed a w hsz hr hinv, fun i hi => ?_⟩
  obtain ⟨h1, o, h2, h3⟩ := mem_ready.1 hi
  have hilt := (Array.getElem?_eq_some_iff.1 h2).1
  obtain ⟨r, hr⟩ : ∃ r, L[i]? = some r := ⟨L[i]'(by rw [hrun.len]; exact hilt), by simp⟩
  have hclD : ∀ j, listed.getD j false = true → ∀ rj, L[j]? = some rj → ∀ k, Nat.testBit rj.anc k = true → listed.getD k false = true := by
   intro j
   induction j using Nat.strongRecOn with
   | _ j ihj =>
    intro hj rj hrj k hk
    obtain ⟨oj, hoj⟩ : ∃ oj, ops[j]? = some oj := ⟨ops[j]'(by rw [← hrun.len]; exact (List.getElem?_eq_some_iff.1 hrj).1), by simp⟩
    obtain ⟨e, he, hb, hc⟩ := hanc j rj oj hrj hoj k hk
    have hon := hcl j oj hoj hj e he hb
    rcases hc with rfl | ⟨r', hr', hk'⟩
    ·exact hon
    ·exact ihj e.on (hord j oj hoj e he hb) hon r' hr' k hk'
  have hstep := draw_step (Q := Q) hrun hn hr (getD_both h1) (fun j hj => by
   obtain ⟨e, he, hb, hc⟩ := hanc i r o hr h2 j hj
   have hon := h3 e he hb
   rcases hc with rfl | ⟨r', hr', hk'⟩
   ·exact hon
   ·exact hclD e.on hon r' hr' j hk') (fun j rj hrj hd k hk => hclD j hd rj hrj k hk) hinv
  refine wpOp_mono (fun a' w' h' => ih (listed.setIfInBounds i true) a' w' (by simp [hsz]) (fun j oj hj hl e he hb => ?_) ?_ (h'.congr fun k hk => ?_)) hstep
  ·by_cases hij : i = j
   ·subst hij
    rw [h2] at hj; cases hj
    exact getD_set_true (h3 e he hb)
   ·rw [getD_set_ne false hij] at hl
    exact getD_set_true (hcl j oj hj hl e he hb)
  ·have := len_filter_lt (p := fun j => !listed.getD j true) (q := fun j => !(listed.setIfInBounds i true).getD j true) (fun x hx => by
    by_cases e : i = x
    ·subst e
     exfalso
     simp [hsz, hilt] at hx
    ·rw [getD_set_ne true e] at hx; exact hx) (List.mem_range.2 hilt) (by rw [h1]; rfl) (by simp [hsz, hilt])
   omega
  ·by_cases e : k = i
   ·subst e
    simp [hsz, hilt]
   ·simp only [if_neg e]
    rw [getD_set_ne false (Ne.symm e)]
end
theorem evDraw_sat {callB : CallB} (hcall : ∀ f args h hs, (callB f args h hs).sat fun r => CallDoes P G f args h r.1 r.2.1) {n id : Nat} {ops : Array Oper} {s : St} {hs : List CH} :
  (evDraw P G callB n ops s hs).sat fun r => Does P G n (.region id ops true) s r.1 r.2.1 := by
 unfold evDraw
 split
 ·rename_i hm hdf hn hord
  refine W.sat_bind (runD_sat hcall ops.size 0 [] s hs) fun q ⟨hlen, hrec⟩ => ?_
  split
  ·rename_i hind
   refine W.sat_pure fun μ0 ro0 a w hst => ?_
   have hrun : RunOk P G ops q.1 s := ⟨hlen, hdf, fun i r hr => by have := (hrec i r hr).1; rw [Nat.zero_add] at this; exact this,
    fun j i rj ri hj hrj hri ht => indAll_spec hind i ri hri j rj (by simp; exact hj) (by simpa using hrj) ht⟩
   have hCn : Cn q.1 s q.1.length = q.1.foldl (fun s r => appR r s) s := by unfold Cn; rw [List.take_length]
   refine wp_region_any hm (draw_any hrun (nB hn) (μ0 := μ0) (ro0 := ro0) (w0 := w) (fun i r o hr ho j hj => ?_) (fun i o ho e he hb => ordB_spec hord i (List.mem_range.2 (Array.getElem?_eq_some_iff.1 ho).1) o ho e he hb) (fun a' w' hinv => ?_) ops.size _ a _ (by simp)
    (fun j oj hj hl => by rw [getD_replicate_false] at hl; cases hl) ?_ ⟨μ0, ro0, ?_, ?_, ?_⟩)
   ·obtain ⟨_, o', ho', ha⟩ := hrec i r hr
    rw [Nat.zero_add] at ho'
    rw [ho] at ho'; cases ho'
    rw [ha] at hj
    rcases ancE_spec _ _ _ hj with h | ⟨e, he, hb, h⟩
    ·simp at h
    ·refine ⟨e, by simpa using he, hb, ?_⟩
     rcases h with h | h
     ·exact .inl h
     ·right
      simp only [List.nil_append] at h
      rw [List.getD_eq_getElem?_getD, List.getElem?_map] at h
      cases hq : (q.1.take i)[e.on]? with
      | none => rw [hq] at h; simp at h
      | some r' =>
       rw [hq] at h
       refine ⟨r', ?_, by simpa using h⟩
       rw [List.getElem?_take] at hq
       split at hq
       ·exact hq
       ·cases hq
   ·obtain ⟨μ, ro, h1, h2, _⟩ := hinv
    refine ⟨μ, ro, h1, trivial, ?_⟩
    have : stD q.1 s (fun j => decide (j < q.1.length)) = q.1.foldl (fun s r => appR r s) s := by
     unfold stD
     rw [← Cn_stF, hCn]
    rw [← this]; exact h2
   ·exact Nat.le_trans (List.length_filter_le _ _) (by simp)
   ·exact ⟨.refl _ _, fun _ h => h, fun _ h => .inl h, ⟨rfl, rfl, rfl, Nat.le_refl _, fun _ _ => rfl, fun _ _ _ => rfl, fun i l h => .inl ⟨i, l, h, rfl⟩⟩⟩
   ·have hmono := (hrun.mono (Nat.le_refl _)).2
    have : stF q.1 0 (fun j => (Array.replicate ops.size false).getD j false) s = s := stF_none fun k _ => getD_replicate_false _ _
    have hst' : StRel G μ0 ro0 { w with drawn := w.drawn + 1 } s a :=
     ⟨fun t v ht => (hst.tm t v ht).mono (fun _ _ h => h) (fun _ h => h) (fun _ _ => rfl), hst.nt, hst.hp.same (Nat.le_refl _) (fun _ _ => rfl) (fun _ _ _ _ _ => rfl), hst.gl.mono (fun _ _ h => h) (fun _ h => h) (fun _ _ => rfl), hst.df.mono (fun _ _ h => h) (fun _ h => h) (fun _ _ => rfl)⟩
    unfold stD
    rw [this]
    exact ⟨hst'.tm, hst'.nt, ⟨fun i k hi => (hst'.hp.obs i k hi).imp_right fun ⟨q1, q2, q3⟩ => ⟨q1, q2, Nat.lt_of_lt_of_le q3 hmono⟩, hst'.hp.inj, hst'.hp.own, hst'.hp.lt, hst'.hp.old, fun i hi => hst'.hp.nx i (Nat.le_trans hmono hi)⟩, hst'.gl, hst'.df⟩
   ·intro j r hr _ x h1 _
    have := (hrun.rcs j r hr).lo
    have h2 := (hrun.mono (Nat.le_of_lt (List.getElem?_eq_some_iff.1 hr).1)).2
    exact hst.hp.nx x (by omega)
  ·exact W.sat_fail
 ·exact W.sat_fail
end Go.Proofs.YtpadimnchmghpaaGreatDoor.Av
