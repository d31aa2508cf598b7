/- One step of a list of operations; calls. -/
import Derived.Test.YtabjlmlfmafllaaAvN
set_option linter.unusedVariables false
set_option linter.unusedSimpArgs false
namespace Go.Proofs.Ytabjlmlfmafllaa.Av
open Go.RowKit

variable {P : Program} {G : Nat → AV} {μ μ' : Nat → Option Loc} {ro ro' : Nat → Prop} {w w' : World}

/-- what a call comes to -/
inductive CO where
  | ret (v : AV)
  | pan (v : AV)
def CoRel (μ : Nat → Option Loc) (ro : Nat → Prop) (w : World) : CO → Ending → Prop
  | .ret v, .returned x => Rep μ ro w true v x
  | .pan v, .panicked [⟨x, false, false⟩] => Rep μ ro w true v x
  | _, _ => False
def CPost (n : Nat) (μ : Nat → Option Loc) (ro : Nat → Prop) (w : World) (r : CO) (h' : Hp) (e : Ending) (w' : World) : Prop :=
  ∃ μ' ro', Up n μ ro w μ' ro' w' ∧ CoRel μ' ro' w' r e ∧ HpRel μ' ro' h' w'
def CallDoes (P : Program) (G : Nat → AV) (f : FuncId) (args : List AV) (h : Hp) (r : CO) (h' : Hp) : Prop :=
  ∀ μ ro w (vs : Array Value), Reps μ ro w true args vs.toList → HpRel μ ro h w → GlRel G μ ro w → Calls P f vs w (CPost h.nx μ ro w r h')

/-- a call that is given: when it is, and what it does -/
structure CSpec where
  ok : List AV → Hp → Bool
  req : List AV → Hp → Prop
  res : List AV → Hp → CO × Hp
def SpecOk (P : Program) (G : Nat → AV) (f : FuncId) (S : CSpec) : Prop := ∀ args h, S.ok args h = true → S.req args h → CallDoes P G f args h (S.res args h).1 (S.res args h).2

/-- a place: a temporary, a cell -/
inductive Pl where
  | t (k : Nat)
  | c (id off : Nat)
/-- other words for the same state -/
inductive Tf where
  | vec (p : Pl) (z : Nat) (e : TypeId)
  | wid (p : Pl)
  | nar (p : Pl)
  | frz (ps : List Pl) (c : List AV) (n : Nat)
  | pln (id : Nat)
  | eqt (p : Pl) (v : AV)
  | eqc (id : Nat) (c : List AV)
  | nl (p : Pl)
  | shr (id n : Nat)
  | unp (id : Nat)
/-- what is told of a step -/
inductive CH where
  | op (g : Option Bool) (h : Hint)
  | ret (g : Option Bool) (args : List AV) (r : AV) (blks : List Blk)
  | br (β : Bool)
  | cut (e : AEx) (s' : St) (ρ : List Nat) (tms : List (Nat × AV)) (blks : List Blk)
  | fcut (m : Nat) (e : AEx) (tms' : List (Nat × AV)) (blks' : List Blk) (ρ : List Nat) (tms : List (Nat × AV)) (blks : List Blk)
  | draw (fps : List (List Nat))
  | tr (f : Tf)
  | trp (f : Tf)
  | spec (S : CSpec)
def CH.gd : List CH → Option Bool
  | .op g _ :: _ => g
  | .ret g _ _ _ :: _ => g
  | _ => none
def CH.hint : List CH → Hint
  | .op _ h :: _ => h
  | [] => .c
  | _ => .a

def St.put (s : St) (dst : Option Tmp) (v : AV) : W St :=
  match dst with
  | none => W.pure s
  | some d => match Nat.blt d s.nt with | true => W.pure { s with tm := s.tm.put d (some v) } | false => W.fail

theorem StRel.put {s : St} {a : Act} {dst : Option Tmp} {v : AV} {x : Value} (h : StRel G μ ro w s a) (hv : Rep μ ro w true v x) : (s.put dst v).sat fun s' => StRel G μ ro w s' (a.put dst x) ∧ s'.hp = s.hp := by
  unfold St.put
  split
  · exact W.sat_pure ⟨h, rfl⟩
  · rename_i d
    split
    · rename_i hb
      have hd : d < a.tmps.size := by rw [h.nt]; exact Nat.le_of_ble_eq_true hb
      refine W.sat_pure ⟨⟨fun t u ht => ?_, by simp [Act.put, h.nt], h.hp, h.gl, h.df⟩, rfl⟩
      simp only [Tr.get_put] at ht
      simp only [Act.put]
      by_cases e : t = d
      · rw [if_pos e] at ht
        simp only [Option.some.injEq] at ht
        subst ht; subst e
        have : (a.tmps.setIfInBounds t x).getD t undef = x := by simp [Array.getD, hd]
        rw [this]; exact hv
      · rw [if_neg e] at ht
        have := h.tm t u ht
        have e2 : (a.tmps.setIfInBounds d x).getD t undef = a.tmps.getD t undef := by
          simp only [Array.getD, Array.size_setIfInBounds]
          split
          · exact Array.getElem_setIfInBounds_ne (by assumption) (fun e3 => e e3.symm)
          · rfl
        rw [e2]; exact this
    · exact W.sat_fail

theorem StRel.up {s : St} {a : Act} {h' : Hp} (h : StRel G μ ro w s a) (u : Up s.hp.nx μ ro w μ' ro' w') (hh : HpRel μ' ro' h' w') : StRel G μ' ro' w' { s with hp := h' } a := by
  have e := u.ag.ext h.hp.nx
  exact ⟨fun t v ht => (h.tm t v ht).mono e u.up u.fr.block, h.nt, hh, h.gl.mono e u.up u.fr.block, h.df.mono e u.up u.fr.block⟩

/-- a guard's outcome, and the state with it written in -/
def gdVal (ops : Array Oper) (s : St) (o : Oper) (β : Option Bool) : W (Bool × St) :=
  match o.guard with
  | none => W.pure (true, s)
  | some (j, want) =>
    match (ops[j]?).bind (·.dst) with
    | some d =>
      match s.tm.get d, Nat.blt d s.nt with
      | some (.bool b), true =>
        match β with
        | some β => (W.owe (b = β)).bind fun _ => W.pure (β == want, { s with tm := s.tm.put d (some (.bool β)) })
        | none => W.pure (b == want, s)
      | some (.tup []), true => W.pure (false, s)
      | _, _ => W.fail
    | none => W.fail
theorem gdVal_sat {ops : Array Oper} {s : St} {o : Oper} {β : Option Bool} {a : Act} (h : StRel G μ ro w s a) :
    (gdVal ops s o β).sat fun r => StRel G μ ro w r.2 a ∧ r.2.hp = s.hp ∧ Region.wanted o (yielded ops a.tmps) = r.1 := by
  unfold gdVal
  split
  · rename_i hg
    exact W.sat_pure ⟨h, rfl, by simp [Region.wanted, hg]⟩
  · rename_i j want hg
    split
    · rename_i d hd
      split
      · rename_i b hget hlt
        have hv := h.tm d _ hget
        have hd' : d < a.tmps.size := by rw [h.nt]; exact Nat.le_of_ble_eq_true hlt
        have hval : a.tmps.getD d undef = .bool b := by
          generalize a.tmps.getD d undef = x at hv
          cases hv; rfl
        have hy : yielded ops a.tmps j = some b := by
          simp only [yielded, hd, Option.bind_some, getD_arr a.tmps d undef hd', hval]
        split
        · rename_i β
          refine W.sat_bind W.sat_owe fun _ hb => W.sat_pure ⟨⟨fun t v ht => ?_, h.nt, h.hp, h.gl, h.df⟩, rfl, ?_⟩
          · simp only [Tr.get_put] at ht
            by_cases e : t = d
            · rw [if_pos e] at ht
              simp only [Option.some.injEq] at ht
              subst ht; subst e
              rw [hval, hb]; exact .bool
            · rw [if_neg e] at ht
              exact h.tm t v ht
          · simp only [Region.wanted, hg, hy, hb]
            cases β <;> cases want <;> rfl
        · refine W.sat_pure ⟨h, rfl, ?_⟩
          simp only [Region.wanted, hg, hy]
          cases b <;> cases want <;> rfl
      · rename_i hget hlt
        have hv := h.tm d _ hget
        have hd' : d < a.tmps.size := by rw [h.nt]; exact Nat.le_of_ble_eq_true hlt
        have hy : yielded ops a.tmps j = none := by
          obtain ⟨vs, hx, _⟩ := hv.tup_inv
          simp only [yielded, hd, Option.bind_some, getD_arr a.tmps d undef hd', hx]
        exact W.sat_pure ⟨h, rfl, by simp only [Region.wanted, hg, hy]; rfl⟩
      · exact W.sat_fail
    · exact W.sat_fail

/-! ### a call by its contract -/
def hpOf : List Blk → Hp → Hp
  | [], h => h
  | b :: l, h => hpOf l (h.new b.ob)
/-- numbers raised -/
def sh1 (k : Nat) : AV → AV
  | .ptr i o => .ptr (i + k) o
  | .sl i o l c e z => .sl (i + k) o l c e z
  | .vec i n z => .vec (i + k) n z
  | v => v
def sh2 (k : Nat) : AV → AV
  | .agg c => .agg (c.map (sh1 k))
  | v => sh1 k v
def sh (k : Nat) : AV → AV
  | .tup c => .tup (c.map (sh2 k))
  | v => sh2 k v
def oks1 : AV → Bool
  | .ptr _ _ | .sl .. | .vec .. => true
  | .ifc _ v => v.pl1
  | v => v.pl1
def oks2 : AV → Bool
  | .agg c => c.all oks1
  | v => oks1 v
def oks : AV → Bool
  | .tup c => c.all oks2
  | v => oks2 v

/-- WHAT A FUNCTION GIVES BACK, for arguments that are only read: r, over new blocks -/
def Ret (P : Program) (G : Nat → AV) (f : FuncId) (args : List AV) (r : AV) (blks : List Blk) : Prop :=
  ∀ ro w (vs : Array Value), (∀ b, ro b → b < w.heap.size) → Reps (fun _ => none) ro w false args vs.toList → GlRel G (fun _ => none) ro w →
    Calls P f vs w (CPost 0 (fun _ => none) ro w (.ret r) (hpOf blks ⟨.e, 0⟩))

theorem Rep.any_mu {μ'' : Nat → Option Loc} {v : AV} {x : Value} (h : Rep μ ro w false v x) : Rep μ'' ro w false v x := by
  generalize ho : false = o at h
  induction h with
  | any => exact .any
  | bool => exact .bool
  | int => exact .int
  | str h => exact .str h
  | ptr h => cases ho
  | nilp => exact .nilp
  | rop vs hb hc _ ih => exact .rop vs hb hc fun i hi => ih i hi rfl
  | sl h h1 h2 h3 => cases ho
  | vec h h1 h3 => cases ho
  | vecn => cases ho
  | lst vs hb hc _ hn ih => exact .lst vs hb hc (fun i hi => ih i hi rfl) hn
  | lstn => exact .lstn
  | nils => exact .nils
  | nen => exact .nen
  | agg hn _ ih => exact .agg hn fun i hi => ih i hi ho
  | tup hn _ ih => exact .tup hn fun i hi => ih i hi ho
  | fn hn _ hm _ ih ih' => exact .fn hn (fun i hi => ih i hi ho) hm (fun i hi => ih' i hi ho)
  | nilf => exact .nilf
  | ifc _ ih => exact .ifc (ih ho)
  | nili => exact .nili

theorem GlRel.any {μ'' : Nat → Option Loc} (h : GlRel G μ ro w) : GlRel G μ'' ro w := fun g => ⟨(h g).1.any_mu, (h g).2⟩
/-- values that show no memory that was there -/
def AV.dat1 : AV → Bool
  | .bool _ | .int _ _ | .str _ | .nilp | .nils | .nen | .nilf | .nili | .ptr _ _ | .sl .. | .vec .. => true
  | _ => false
def AV.dat : AV → Bool
  | .agg c | .tup c => c.all AV.dat1
  | v => v.dat1
theorem Rep.dat1 {o : Bool} {v : AV} {x : Value} (h : Rep μ ro w o v x) (hd : v.dat1 = true) : Rep μ ro' w o v x := by
  cases h <;> first
    | (simp [AV.dat1] at hd; done)
    | constructor
  all_goals assumption
theorem Rep.dat {o : Bool} {v : AV} {x : Value} (h : Rep μ ro w o v x) (hd : v.dat = true) : Rep μ ro' w o v x := by
  have key : ∀ {c : List AV} {i : Nat}, c.all AV.dat1 = true → i < c.length → (c.getD i .any).dat1 = true := fun {c i} hp hi => by
    rw [List.all_eq_true] at hp
    rw [List.getD_eq_getElem?_getD, List.getElem?_eq_getElem hi]
    exact hp _ (List.getElem_mem hi)
  cases h with
  | agg hn hr => exact .agg hn fun i hi => (hr i hi).dat1 (key hd hi)
  | tup hn hr => exact .tup hn fun i hi => (hr i hi).dat1 (key hd hi)
  | any => cases hd
  | bool => exact .bool
  | int => exact .int
  | str h => exact .str h
  | ptr h => exact .ptr h
  | nilp => exact .nilp
  | rop vs hb hc hr => cases hd
  | sl h h1 h2 h3 => exact .sl h h1 h2 h3
  | vec h h1 h3 => exact .vec h h1 h3
  | vecn => exact .vecn
  | lst vs hb hc hr hn => cases hd
  | lstn => exact .lstn
  | nils => exact .nils
  | nen => exact .nen
  | fn hn hr hm hs => cases hd
  | nilf => exact .nilf
  | ifc h => cases hd
  | nili => exact .nili

/-- an argument as one that is only read; does it show owned memory? -/
def snap1 (h : Hp) (v v' : AV) : W Bool :=
  match v with
  | .sl id off len cap ex z =>
    match v', h.m.get id with
    | .lst c n, some (.blk k) => match k.pl with | true => (W.owe (sub k.c off (mu len z) = c ∧ n = len ∧ off + mu len z ≤ k.c.length ∧ len ≤ cap)).bind fun _ => W.pure true | false => W.fail
    | _, _ => W.fail
  | .vec id n z =>
    match v', h.m.get id with
    | .lst c n', some (.blk k) => match k.pl with | true => (W.owe (k.c = c ∧ n' = n ∧ k.c.length = mu n z)).bind fun _ => W.pure true | false => W.fail
    | _, _ => W.fail
  | .nils => match v' with | .lst [] 0 => W.pure false | .nils => W.pure false | _ => W.fail
  | v => match v.pl with | true => (W.owe (v = v')).bind fun _ => W.pure false | false => W.fail
def snap (h : Hp) : List AV → List AV → W Bool
  | [], [] => W.pure false
  | v :: l, v' :: l' => (snap1 h v v').bind fun a => (snap h l l').bind fun b => W.pure (a || b)
  | _, _ => W.fail

/-- what an argument that is only read may show: with owned memory, if some is shown -/
def roC (u : Bool) (ro : Nat → Prop) (h : Hp) (μ : Nat → Option Loc) (b : Nat) : Prop := ro b ∨ (u = true ∧ ∃ i k l, h.m.get i = some k ∧ μ i = some l ∧ l.1 = b)

theorem snap1_sat {h : Hp} {v v' : AV} {x : Value} (hv : Rep μ ro w true v x) (hh : HpRel μ ro h w) : (snap1 h v v').sat fun u => Rep μ (roC u ro h μ) w false v' x := by
  unfold snap1
  split
  · rename_i id off len cap ex z
    split
    · rename_i c n k hk
      split
      · rename_i hpl
        refine W.sat_bind W.sat_owe fun _ ⟨h1, h2, h3, h4⟩ => W.sat_pure ?_
        cases hv with
        | sl hb hc1 hc2 hc3 =>
          rename_i cap' l
          have hob := hh.obsM id _ _ hk hb
          obtain ⟨cs, fr, g1, g0, g2, g3, g4, g5⟩ := hob.get
          subst h2
          rw [hpl] at g5
          rw [mu_eq] at h1 h3
          subst h1
          refine .lst (fun i => cs.getD (off + i) undef) (fun _ => ⟨.inr ⟨rfl, id, _, l, hk, hb, rfl⟩, rfl⟩) (fun i hi => ?_) (fun i hi => ?_) (Nat.le_trans h4 hc1)
          · have := (sub_getD hi).2.1
            exact cell_of (off := off + i) g1 (by omega)
          · obtain ⟨e1, e2, _⟩ := sub_getD hi
            rw [e1]
            exact (g5 _ e2).mono (fun _ _ h => h) (fun _ h => .inl h) (fun _ _ => rfl)
      · exact W.sat_fail
    · exact W.sat_fail
  · rename_i id n z
    split
    · rename_i c n' k hk
      split
      · rename_i hpl
        refine W.sat_bind W.sat_owe fun _ ⟨h1, h2, h3⟩ => W.sat_pure ?_
        subst h1; subst h2
        rw [mu_eq] at h3
        cases hv with
        | vecn =>
          have hc0 : k.c = [] := List.length_eq_zero_iff.1 (by simpa using h3)
          rw [hc0]
          exact .lstn
        | vec hb hc1 hc3 =>
          rename_i cap' l
          have hob := hh.obsM id _ _ hk hb
          obtain ⟨cs, fr, g1, g0, g2, g3, g4, g5⟩ := BlkRel.get hob
          rw [hpl] at g5
          refine .lst (fun i => cs.getD i undef) (fun _ => ⟨.inr ⟨rfl, id, _, l, hk, hb, rfl⟩, rfl⟩) (fun i hi => ?_) (fun i hi => ?_) hc1
          · rw [Nat.zero_add]; exact cell_of g1 (by omega)
          · exact (g5 i hi).mono (fun _ _ h => h) (fun _ h => .inl h) (fun _ _ => rfl)
      · exact W.sat_fail
    · exact W.sat_fail
  · cases hv
    split
    · exact W.sat_pure .lstn
    · exact W.sat_pure .nils
    · exact W.sat_fail
  · split
    · rename_i hp
      refine W.sat_bind W.sat_owe fun _ he => W.sat_pure ?_
      subst he
      exact (hv.pl hp).mono (fun _ _ h => h) (fun _ h => .inl h) (fun _ _ => rfl)
    · exact W.sat_fail

theorem roC_mono {u v : Bool} {h : Hp} (huv : u = true → v = true) : ∀ b, roC u ro h μ b → roC v ro h μ b := fun b hb => by
  rcases hb with h | ⟨h1, h2⟩
  · exact .inl h
  · exact .inr ⟨huv h1, h2⟩
theorem snap_sat {h : Hp} (hh : HpRel μ ro h w) : ∀ (l l' : List AV) (xs : List Value), Reps μ ro w true l xs → (snap h l l').sat fun u => Reps μ (roC u ro h μ) w false l' xs
  | [], [], xs, hr => by
    have : xs = [] := List.length_eq_zero_iff.1 (by simpa using hr.1)
    subst this
    exact W.sat_pure Reps.nil
  | v :: l, v' :: l', xs, hr => by
    obtain ⟨x, xs', rfl, h1, h2⟩ := hr.head
    exact W.sat_bind (snap1_sat h1 hh) fun a ha => W.sat_bind (snap_sat hh l l' xs' h2) fun b hb => W.sat_pure (Reps.cons (ha.mono (fun _ _ h => h) (roC_mono (by simp; exact fun h => .inl h)) (fun _ _ => rfl)) (hb.mono (fun _ _ h => h) (roC_mono (by simp; exact fun h => .inr h)) (fun _ _ => rfl)))
  | [], _ :: _, _, _ => W.sat_fail
  | _ :: _, [], _, _ => W.sat_fail

theorem hpOf_get : ∀ (l : List Blk) (h : Hp) (i : Nat), (hpOf l h).nx = h.nx + l.length ∧ (hpOf l h).m.get i = if h.nx ≤ i ∧ i < h.nx + l.length then (l[i - h.nx]?).map Blk.ob else h.m.get i
  | [], h, i => ⟨rfl, by simp [hpOf]; intro h1 h2; omega⟩
  | b :: l, h, i => by
    obtain ⟨h1, h2⟩ := hpOf_get l (h.new b.ob) i
    simp only [hpOf, List.length_cons]
    rw [h1, h2]
    refine ⟨by simp only [Hp.new]; omega, ?_⟩
    simp only [Hp.new, Tr.get_put]
    by_cases e : i = h.nx
    · subst e
      rw [if_neg (by omega), if_pos rfl, if_pos (by omega)]
      simp
    · by_cases c : h.nx + 1 ≤ i ∧ i < h.nx + 1 + l.length
      · rw [if_pos c, if_pos (by omega), show i - h.nx = (i - (h.nx + 1)) + 1 by omega]
        simp
      · rw [if_neg c, if_neg e, if_neg (by omega)]

theorem all_get {q : AV → Bool} {c : List AV} {i : Nat} (hp : c.all q = true) (hi : i < c.length) : q (c.getD i .any) = true := by
  rw [List.all_eq_true] at hp
  rw [List.getD_eq_getElem?_getD, List.getElem?_eq_getElem hi]
  exact hp _ (List.getElem_mem hi)
theorem map_get {q : AV → AV} {c : List AV} {i : Nat} (hi : i < c.length) : (c.map q).getD i .any = q (c.getD i .any) := by
  simp [List.getD, List.getElem?_eq_getElem hi]
theorem sh1_rep {k : Nat} {v : AV} {x : Value} {μ'' : Nat → Option Loc} (hμ : ∀ i b, μ i = some b → μ'' (i + k) = some b) (h : Rep μ ro w true v x) (hp : oks1 v = true) : Rep μ'' ro w true (sh1 k v) x := by
  cases h with
  | ptr h => exact .ptr (hμ _ _ h)
  | sl h h1 h2 h3 => exact .sl (hμ _ _ h) h1 h2 h3
  | vec h h1 h3 => exact .vec (hμ _ _ h) h1 h3
  | vecn => exact .vecn
  | ifc h => exact .ifc ((h.pl1 (o' := false) hp).any_mu.up)
  | any => cases hp
  | bool => exact .bool
  | int => exact .int
  | str h => exact .str h
  | nilp => exact .nilp
  | rop vs hb hc hr => exact .rop vs hb hc fun i hi => (hr i hi).any_mu
  | lst vs hb hc hr hn => exact .lst vs hb hc (fun i hi => (hr i hi).any_mu) hn
  | lstn => exact .lstn
  | nils => exact .nils
  | nen => exact .nen
  | agg hn hr => cases hp
  | tup hn hr => cases hp
  | fn hn hr hm hs => exact ((Rep.fn (o := true) hn hr hm hs).pl1 (o' := false) hp).any_mu.up
  | nilf => exact .nilf
  | nili => exact .nili
theorem sh2_rep {k : Nat} {v : AV} {x : Value} {μ'' : Nat → Option Loc} (hμ : ∀ i b, μ i = some b → μ'' (i + k) = some b) (h : Rep μ ro w true v x) (hp : oks2 v = true) : Rep μ'' ro w true (sh2 k v) x := by
  cases v with
  | agg c =>
    cases h with
    | agg hn hr =>
      refine .agg (by simpa using hn) fun i hi => ?_
      simp only [List.length_map] at hi
      rw [map_get hi]
      exact sh1_rep hμ (hr i hi) (all_get hp hi)
  | _ => exact sh1_rep hμ h hp
theorem sh_rep {k : Nat} {v : AV} {x : Value} {μ'' : Nat → Option Loc} (hμ : ∀ i b, μ i = some b → μ'' (i + k) = some b) (h : Rep μ ro w true v x) (hp : oks v = true) : Rep μ'' ro w true (sh k v) x := by
  cases v with
  | tup c =>
    cases h with
    | tup hn hr =>
      refine .tup (by simpa using hn) fun i hi => ?_
      simp only [List.length_map] at hi
      rw [map_get hi]
      exact sh2_rep hμ (hr i hi) (all_get hp hi)
  | _ => exact sh2_rep hμ h hp

/-- blocks that show no memory that was there -/
def datBlks : List Blk → Prop
  | [] => True
  | b :: l => (∀ x ∈ b.c, x.dat1 = true) ∧ datBlks l
theorem datBlks_get : ∀ {l : List Blk} {i : Nat} {b : Blk}, datBlks l → l[i]? = some b → ∀ x ∈ b.c, x.dat1 = true
  | [], i, b, _, h => by simp at h
  | c :: l, 0, b, hd, h => by simp only [List.getElem?_cons_zero, Option.some.injEq] at h; subst h; exact hd.1
  | c :: l, i + 1, b, hd, h => datBlks_get hd.2 (by simpa using h)

/-- a call by its contract -/
def callBy (P : Program) (G : Nat → AV) (f : FuncId) (args args' : List AV) (r : AV) (blks : List Blk) (h : Hp) : W (CO × Hp) :=
  (snap h args args').bind fun u =>
  match oks r && (blks.all (fun b => b.pl && b.it.isNone) && (!u || r.dat)) with
  | true => (match u with | true => W.owe (datBlks blks) | false => W.pure ()).bind fun _ => (W.owe (Ret P G f args' r blks)).bind fun _ => W.pure (.ret (sh h.nx r), hpOf blks h)
  | false => W.fail

theorem callBy_sat {f : FuncId} {args args' : List AV} {r : AV} {blks : List Blk} {h : Hp} {vs : Array Value} (hargs : Reps μ ro w true args vs.toList) (hh : HpRel μ ro h w) (hg : GlRel G μ ro w) :
    (callBy P G f args args' r blks h).sat fun x => Calls P f vs w (CPost h.nx μ ro w x.1 x.2) := by
  refine W.sat_bind (snap_sat hh args args' _ hargs) fun u hu => ?_
  split
  · rename_i hb
    simp only [Bool.and_eq_true, Bool.or_eq_true, Bool.not_eq_true'] at hb
    obtain ⟨hb1, hb2, hb3⟩ := hb
    refine W.sat_bind (Q := fun _ => u = true → datBlks blks) ?_ fun _ hdat => W.sat_bind W.sat_owe fun _ hret => W.sat_pure ?_
    · cases u
      · exact W.sat_pure (fun h => by cases h)
      · exact W.sat_mono W.sat_owe fun _ h _ => h
    have hlt : ∀ b, roC u ro h μ b → b < w.heap.size := fun b hb => by
      rcases hb with h1 | ⟨_, i, k, l, h1, h2, h3⟩
      · exact hh.old b h1
      · exact h3 ▸ hh.lt i l h2
    refine (hret (roC u ro h μ) w vs hlt ⟨hu.1, fun i hi => (hu.2 i hi).any_mu⟩ (hg.any.mono (μ := fun _ => none) (fun _ _ h => h) (fun _ h => .inl h) (fun _ _ => rfl))).mono ?_
    rintro e w1 ⟨μ1, ro1, hup, hco, hh1⟩
    have hold : ∀ b, b < w.heap.size → w1.heap[b]? = w.heap[b]? := fun b hb => hup.fr.rest b hb (fun i l hi => by cases hi)
    have hfresh : ∀ i l, μ1 i = some l → w.heap.size ≤ l.1 := fun i l hi => by
      rcases hup.fr.new i l hi with ⟨j, m, hj, _⟩ | h1
      · cases hj
      · exact h1
    let μ2 : Nat → Option Loc := fun i => if i < h.nx then μ i else μ1 (i - h.nx)
    let ro2 : Nat → Prop := fun b => ro1 b ∧ (ro b ∨ w.heap.size ≤ b)
    have hμ2 : ∀ i b, μ1 i = some b → μ2 (i + h.nx) = some b := fun i b hi => by
      simp only [μ2]; rw [if_neg (by omega), Nat.add_sub_cancel]; exact hi
    have hag : agree h.nx μ μ2 := fun i hi => by simp only [μ2]; rw [if_pos hi]
    have hro2 : ∀ b, ro b → ro2 b := fun b hb => ⟨hup.up b (.inl hb), .inl hb⟩
    have hnw : ∀ b, ro2 b → ro b ∨ w.heap.size ≤ b := fun b hb => hb.2
    have hsame : u = false → ∀ b, ro1 b → ro2 b := fun hu b hb => ⟨hb, by
      rcases hup.nw b hb with h1 | h1 | ⟨_, _, h1, _⟩
      · rcases h1 with h1 | ⟨h1, _⟩
        · exact .inl h1
        · rw [hu] at h1; cases h1
      · exact .inr h1
      · cases h1⟩
    have hfr : Fr μ ro w μ2 w1 := ⟨hup.fr.os, hup.fr.tape, hup.fr.output, hup.fr.size, fun b hb => hold b (hh.old b hb), fun b hb _ => hold b hb, fun i l hi => by
      simp only [μ2] at hi
      split at hi
      · exact .inl ⟨i, l, hi, rfl⟩
      · exact .inr (hfresh _ _ hi)⟩
    refine ⟨μ2, ro2, ⟨hag, hro2, fun b hb => (hnw b hb).imp_right .inl, hfr⟩, ?_, ?_⟩
    · -- the result
      cases e with
      | returned x =>
        have hx : Rep μ1 ro1 w1 true r x := hco
        have : Rep μ2 ro1 w1 true (sh h.nx r) x := sh_rep hμ2 hx hb1
        show Rep μ2 ro2 w1 true (sh h.nx r) x
        cases u with
        | false => exact this.mono (fun _ _ h => h) (hsame rfl) (fun _ _ => rfl)
        | true =>
          have hd : r.dat = true := by simpa using hb3
          exact sh_rep hμ2 (hx.dat hd) hb1
      | panicked c => exact hco.elim
      | outgrown => exact hco.elim
    · -- the heap
      have hget := fun i => (hpOf_get blks h i).2
      have hget1 := fun i => (hpOf_get blks ⟨.e, 0⟩ i).2
      have hin : ∀ i k, (hpOf blks h).m.get i = some k → (i < h.nx ∧ h.m.get i = some k) ∨ (h.nx ≤ i ∧ (hpOf blks ⟨.e, 0⟩).m.get (i - h.nx) = some k) := fun i k hi => by
        rw [hget i] at hi
        split at hi
        · rename_i hc
          refine .inr ⟨hc.1, ?_⟩
          rw [hget1, if_pos (by simp only; omega)]
          exact hi
        · refine .inl ⟨?_, hi⟩
          rcases Nat.lt_or_ge i h.nx with h1 | h1
          · exact h1
          · rcases hh.obs i k hi with ⟨b, hb, _⟩ | ⟨_, _, h2⟩
            · rw [hh.nx i h1] at hb; cases hb
            · exact h2
      have hold2 : ∀ b, ro b → w1.heap[b]? = w.heap[b]? := fun b hb => hold b (hh.old b hb)
      constructor
      · intro i k hi
        rcases hin i k hi with ⟨h1, h2⟩ | ⟨h1, h2⟩
        · rcases hh.obs i k h2 with ⟨b, hb, hob⟩ | ⟨q1, q2, q3⟩
          · exact .inl ⟨b, by simp only [μ2]; rw [if_pos h1]; exact hb, hob.mono (hag.ext hh.nx) hro2 hold2 (hold _ (hh.lt i b hb))⟩
          · exact .inr ⟨by simp only [μ2]; rw [if_pos h1]; exact q1, q2, by rw [(hpOf_get blks h 0).1]; omega⟩
        · rcases hh1.obs _ k h2 with ⟨b, hb, hob⟩ | ⟨q1, q2, q3⟩
          rotate_left
          · rw [(hpOf_get blks ⟨.e, 0⟩ 0).1] at q3
            simp only at q3
            exact .inr ⟨by simp only [μ2]; rw [if_neg (by omega)]; exact q1, q2, by rw [(hpOf_get blks h 0).1]; omega⟩
          refine .inl ⟨b, by simp only [μ2]; rw [if_neg (by omega)]; exact hb, ?_⟩
          rw [hget1] at h2
          split at h2
          · simp only [Option.map_eq_some_iff] at h2
            obtain ⟨kb, hkb, rfl⟩ := h2
            have hkb2 : kb.pl = true ∧ kb.it = none := by
              rw [List.all_eq_true] at hb2
              have := hb2 kb (List.mem_of_getElem? hkb)
              simpa using this
            have hpl := hkb2.1
            have hobk : kb.ob = .blk kb := by simp [Blk.ob, hkb2.2]
            rw [hobk] at hob ⊢
            obtain ⟨cs, fr, g1, g0, g2, g3, g4, g5⟩ := hob.get
            refine ⟨⟨cs, fr, g1, g0, g2, g3, g4, fun j hj => ?_⟩⟩
            have hrep := g5 j hj
            rw [hpl] at hrep ⊢
            cases u with
            | false => exact (Rep.any_mu hrep).mono (fun _ _ h => h) (hsame rfl) (fun _ _ => rfl)
            | true =>
              have hd := datBlks_get (hdat rfl) hkb
              refine (Rep.any_mu hrep).dat1 (hd _ ?_)
              rw [List.getD_eq_getElem?_getD, List.getElem?_eq_getElem hj]
              exact List.getElem_mem hj
          · cases h2
      · intro i j k l b c hi hj hbi hbj hbc
        simp only [μ2] at hbi hbj
        rcases hin i k hi with ⟨h1, h2⟩ | ⟨h1, h2⟩ <;> rcases hin j l hj with ⟨h3, h4⟩ | ⟨h3, h4⟩
        · rw [if_pos h1] at hbi; rw [if_pos h3] at hbj
          exact hh.inj i j k l b c h2 h4 hbi hbj hbc
        · rw [if_pos h1] at hbi; rw [if_neg (by omega)] at hbj
          have := hh.lt i b hbi
          have := hfresh _ _ hbj
          omega
        · rw [if_neg (by omega)] at hbi; rw [if_pos h3] at hbj
          have := hh.lt j c hbj
          have := hfresh _ _ hbi
          omega
        · rw [if_neg (by omega)] at hbi hbj
          have := hh1.inj _ _ k l b c h2 h4 hbi hbj hbc
          omega
      · intro i k b hi hbi hr
        simp only [μ2] at hbi
        rcases hin i k hi with ⟨h1, h2⟩ | ⟨h1, h2⟩
        · rw [if_pos h1] at hbi
          rcases hr.2 with h3 | h3
          · exact hh.own i k b h2 hbi h3
          · have := hh.lt i b hbi
            omega
        · rw [if_neg (by omega)] at hbi
          exact hh1.own _ k b h2 hbi hr.1
      · intro i b hbi
        simp only [μ2] at hbi
        split at hbi
        · exact Nat.lt_of_lt_of_le (hh.lt i b hbi) hup.fr.size
        · exact hh1.lt _ b hbi
      · intro b hb
        exact hh1.old b hb.1
      · intro i hi
        rw [(hpOf_get blks h 0).1] at hi
        simp only [μ2]
        rw [if_neg (by omega)]
        exact hh1.nx _ (by rw [(hpOf_get blks ⟨.e, 0⟩ 0).1]; simp only; omega)
  · exact W.sat_fail
end Go.Proofs.Ytabjlmlfmafllaa.Av
